import Derived.Test.YtaanadbpnmcbcaaGreatDoorAWord
import Derived.Laws.BytesArg
import Derived.Lib.Strings
import Derived.Test.YtaanadbpnmcbcaaGreatDoorXmF3
import Derived.Lib.SlTrimSet
set_option linter.unusedVariables false
set_option linter.unusedSimpArgs false
namespace Go.Proofs.YtaanadbpnmcbcaaGreatDoorA
open Go
theorem bs {A B : Type} (a : A) (f : A → Option B) : Option.bind (some a) f = f a := id rfl
theorem ct {A : Type} (a b : A) : cond true a b = a := id rfl
theorem cf {A : Type} (a b : A) : cond false a b = b := id rfl
theorem grd_t {R : Type} (x : Option R) : grd true x = x := rfl
theorem u10 {R : Type} {g : Bool} (h : g = true) (x : Option R) : grd g x = x := by rw [h]; rfl
theorem u17 {i : Int} {n : Nat} (h : 0 ≤ i) (h' : i < n) : gIx i n = true := by simp [gIx, h, h']
theorem u4f {l h : Int} {n : Nat} (h0 : 0 ≤ l) (h1 : l ≤ h) (h2 : h ≤ n) : gSl l h n = true := by simp [gSl, h0, h1, h2]
theorem u28 {n : Nat} (h : n ≤ 140737488355328) : gRm n = true := by simp [gRm, h]
theorem u43 {x y : ByteArray} (h : x.size + y.size ≤ 9223372036854775807) : gCat x y = true := by
 unfold gCat
 rw [decide_eq_true_iff]
 omega
theorem ud1 {y : Int} (h : 0 ≤ y) : gSh y = true := by simp [gSh, h]
theorem u61 {y : Int} (h : y ≠ 0) : gNz y = true := by simp [gNz, h]
theorem gMk_t {l c : Int} {b : Nat} (h0 : 0 ≤ l) (h1 : l ≤ c) (h2 : c * b ≤ 140737488355328) : gMk l c b = true := by simp [gMk, h0, h1, h2]
theorem wr {x : Int} (h : -9223372036854775808 ≤ x) (h' : x ≤ 9223372036854775807) : IntKind.wrap .i64 x = x := by
 simp only [IntKind.wrap, IntKind.signed, IntKind.bits]
 simp
 omega
theorem wr8 {x : Int} (h : 0 ≤ x) (h' : x < 256) : IntKind.wrap .u8 x = x := by
 simp only [IntKind.wrap, IntKind.signed, IntKind.bits]
 simp
 omega
theorem wr8m (x : Int) : IntKind.wrap .u8 x = x % 256 := by
 simp only [IntKind.wrap, IntKind.signed, IntKind.bits]
 simp
theorem wr32m (x : Int) : IntKind.wrap .u32 x = x % 4294967296 := by
 simp only [IntKind.wrap, IntKind.signed, IntKind.bits]
 simp
theorem shl_eq {x : Int} {n : Int} (h0 : 0 ≤ n) (h1 : n ≤ 64) : iShl .i64 x n = IntKind.wrap .i64 (x * 2 ^ n.toNat) := by
 unfold iShl
 congr 3
 simp [IntKind.bits]
 omega
theorem w8e {x : Int} {n : Int} (h0 : 0 ≤ n) (h1 : n ≤ 64) : iShr .i64 x n = x / 2 ^ n.toNat := by
 unfold iShr
 rw [show min n.toNat (IntKind.bits .i64) = n.toNat by simp [IntKind.bits]; omega]
 rw [Int.fdiv_eq_ediv_of_nonneg]
 exact Int.pow_nonneg (by decide)
theorem shr8 (x : Int) : iShr .i64 x 8 = x / 256 := by rw [w8e (by decide) (by decide)]; rfl
theorem shr16 (x : Int) : iShr .i64 x 16 = x / 65536 := by rw [w8e (by decide) (by decide)]; rfl
theorem shr24 (x : Int) : iShr .i64 x 24 = x / 16777216 := by rw [w8e (by decide) (by decide)]; rfl
theorem shl8 (x : Int) : iShl .i64 x 8 = IntKind.wrap .i64 (x * 256) := by rw [shl_eq (by decide) (by decide)]; rfl
theorem u35 {x y : Int} (h : 0 ≤ x) : Int.tmod x y = x % y := Int.tmod_eq_emod_of_nonneg h
theorem u6e {x y : Int} (h : 0 ≤ x) : Int.tdiv x y = x / y := Int.tdiv_eq_ediv_of_nonneg h
def IsBytes (l : List Int) : Prop := ∀ y ∈ l, 0 ≤ y ∧ y < 256
theorem IsBytes.nil : IsBytes [] := fun y h => by simp at h
theorem IsBytes.cons {a : Int} {l : List Int} (h0 : 0 ≤ a) (h1 : a < 256) (h : IsBytes l) : IsBytes (a :: l) := fun y hy => by
 rcases List.mem_cons.1 hy with rfl | hy
 ·exact ⟨h0, h1⟩
 ·exact h y hy
theorem IsBytes.append {l m : List Int} (h : IsBytes l) (h' : IsBytes m) : IsBytes (l ++ m) := fun y hy => (List.mem_append.1 hy).elim (h y) (h' y)
theorem IsBytes.left {l m : List Int} (h : IsBytes (l ++ m)) : IsBytes l := fun y hy => h y (List.mem_append.2 (.inl hy))
theorem IsBytes.right {l m : List Int} (h : IsBytes (l ++ m)) : IsBytes m := fun y hy => h y (List.mem_append.2 (.inr hy))
theorem IsBytes.drop {l : List Int} (h : IsBytes l) (n : Nat) : IsBytes (l.drop n) := fun y hy => h y (List.mem_of_mem_drop hy)
theorem IsBytes.take {l : List Int} (h : IsBytes l) (n : Nat) : IsBytes (l.take n) := fun y hy => h y (List.mem_of_mem_take hy)
theorem IsBytes.sub {l : List Int} (h : IsBytes l) (a b : Int) : IsBytes (sub l a b) := (h.take _).drop _
theorem IsBytes.get {l : List Int} (h : IsBytes l) {i : Nat} (hi : i < l.length) : 0 ≤ l[i] ∧ l[i] < 256 := h _ (List.getElem_mem _)
theorem IsBytes.bytesL (s : ByteArray) : IsBytes (bytesL s) := fun y hy => by
 obtain ⟨b, _, rfl⟩ := List.mem_map.1 hy
 have := b.toNat_lt
 omega
theorem u92 {l : List Int} (h : ∀ y ∈ l, (Lit.int .u8 y).wf = true) : IsBytes l := fun y hy => by
 have := h y hy
 simp [Lit.wf, IntKind.min, IntKind.max, IntKind.signed, IntKind.bits] at this
 omega
theorem v62 {a b : ByteArray} (h : a.data.toList = b.data.toList) : a = b := by
 obtain ⟨⟨l⟩⟩ := a
 obtain ⟨⟨m⟩⟩ := b
 simp at h
 subst h
 rfl
theorem u11 (l : List Int) : (strL l).size = l.length := by
 show (List.toArray _).size = _
 simp
theorem u13 (s : ByteArray) : (bytesL s).length = s.size := by simp [bytesL]
theorem u4a (l : List Int) : (strL l).data.toList = l.map fun n => UInt8.ofNat n.toNat := by simp [strL]
theorem u1e (s : ByteArray) : strL (bytesL s) = s := by
 apply v62
 rw [u4a, bytesL, List.map_map]
 conv => rhs; rw [← List.map_id s.data.toList]
 apply List.map_congr_left
 intro b _
 simp
theorem u1d {l : List Int} (h : IsBytes l) : bytesL (strL l) = l := by
 unfold bytesL
 rw [u4a, List.map_map]
 conv => rhs; rw [← List.map_id l]
 apply List.map_congr_left
 intro b hb
 have := h b hb
 simp
 omega
theorem u27 (l m : List Int) : strL l ++ strL m = strL (l ++ m) := by
 apply v62
 rw [ByteArray.data_append, Array.toList_append, u4a, u4a, u4a, List.map_append]
theorem u82 : strL [] = ByteArray.empty := rfl
theorem u36 (l : List Int) (a b : Int) : cut (strL l) a b = strL (sub l a b) := by
 apply v62
 unfold cut sub
 rw [Lib.extract_data, u4a, u4a, ← List.map_drop, ← List.map_take, List.drop_take]
theorem u22 {l : List Int} (h : IsBytes l) {i : Int} (h0 : 0 ≤ i) (h1 : i < l.length) : u21 (strL l) i = l.getD i.toNat 0 := by
 have hi : i.toNat < l.length := by omega
 have hs : i.toNat < (strL l).size := by rw [u11]; exact hi
 unfold u21
 rw [dif_pos hs]
 have e : (strL l)[i.toNat]'hs = UInt8.ofNat (l[i.toNat]).toNat := by
  show (strL l).data[i.toNat]'_ = _
  simp [strL]
 rw [e, List.getD_eq_getElem?_getD, List.getElem?_eq_getElem hi]
 have := h l[i.toNat] (List.getElem_mem _)
 simp
 omega
theorem sEq_iff {a b : ByteArray} : sEq a b = true ↔ a = b := by
 unfold sEq
 rw [beq_iff_eq]
 constructor
 ·intro h
  apply v62
  rwa [ByteArray.toList_eq, ByteArray.toList_eq] at h
 ·rintro rfl; rfl
theorem u2f (a : ByteArray) : sEq a a = true := sEq_iff.2 rfl
theorem ve7 {l m : List Int} (hl : IsBytes l) (hm : IsBytes m) (h : strL l = strL m) : l = m := by rw [← u1d hl, ← u1d hm, h]
theorem u84 {l m : List Int} (hl : IsBytes l) (hm : IsBytes m) : sEq (strL l) (strL m) = decide (l = m) := by
 rw [Bool.eq_iff_iff, sEq_iff, decide_eq_true_iff]
 exact ⟨ve7 hl hm, fun h => by rw [h]⟩
theorem u56 (a b : ByteArray) : sEq a b = decide (a = b) := by rw [Bool.eq_iff_iff, sEq_iff, decide_eq_true_iff]
theorem u3d {α : Type} (l : List α) (n : Int) : sub l 0 n = l.take n.toNat := by simp [sub]
theorem v56 {α : Type} (l : List α) (n : Int) {m : Int} (h : m = l.length) : sub l n m = l.drop n.toNat := by subst h; simp [sub]
theorem u1b {k : Kd} {l : List (El k)} {i : Nat} (h : i < l.length) : rdE k l i = l[i] := by
 unfold rdE
 rw [List.getD_eq_getElem?_getD, List.getElem?_eq_getElem h]
 rfl
theorem u81 {α : Type} {l : List α} {i : Nat} (h : i < l.length) : l.take (i + 1) = l.take i ++ [l[i]] := by
 rw [List.take_add_one, List.getElem?_eq_getElem h]
 rfl
theorem u18 {α : Type} {l : List α} {i : Nat} (h : i < l.length) : l.drop i = l[i] :: l.drop (i + 1) := List.drop_eq_getElem_cons h
theorem ud {p : Prop} [Decidable p] (h : p) : decide p = true := decide_eq_true h
theorem uf {p : Prop} [Decidable p] (h : ¬ p) : decide p = false := decide_eq_false h
theorem vbc {n : Nat} (h : n < 18446744073709551616) : ∃ m, fuel = n + m + 1 := ⟨fuel - n - 1, by rw [u54]; omega⟩
theorem v7c {a b : Nat} (h : a ≤ b) : (256 : Int) ^ a ≤ 256 ^ b := by
 have h2 : ((256 ^ a : Nat) : Int) ≤ ((256 ^ b : Nat) : Int) := Int.ofNat_le.2 (Nat.pow_le_pow_right (n := 256) (by decide) h)
 rw [Int.natCast_pow, Int.natCast_pow] at h2
 exact h2
def beL (n : Int) : Nat → List Int
 | 0 => []
 | m + 1 => beL (n / 256) m ++ [n % 256]
theorem u14 (n : Int) (m : Nat) : (beL n m).length = m := by
 induction m generalizing n with
 | zero => rfl
 | succ m ih => simp [beL, ih]
theorem u25 (n : Int) (m : Nat) : IsBytes (beL n m) := by
 induction m generalizing n with
 | zero => exact IsBytes.nil
 | succ m ih => exact (ih _).append (IsBytes.cons (by omega) (by omega) IsBytes.nil)
def beN : Int → List Int → Int
 | a, [] => a
 | a, x :: xs => beN (a * 256 + x) xs
theorem w18 (a : Int) (l m : List Int) : beN a (l ++ m) = beN (beN a l) m := by
 induction l generalizing a with
 | nil => rfl
 | cons x l ih => exact ih _
theorem ub0 (n : Int) (m : Nat) (h0 : 0 ≤ n) (h : n < 256 ^ m) : beN 0 (beL n m) = n := by
 induction m generalizing n with
 | zero => simp [beL, beN] at *; omega
 | succ m ih =>
  rw [beL, w18, ih (n / 256) (by omega) (by rw [Int.pow_succ] at h; omega)]
  simp [beN]
  omega
theorem u53 : ∀ (l : List Int) (a : Int), IsBytes l → 0 ≤ a → 0 ≤ beN a l ∧ beN a l < (a + 1) * 256 ^ l.length
 | [], a, _, ha => by simp [beN]; omega
 | x :: xs, a, h, ha => by
  have hx := h x List.mem_cons_self
  have ih := u53 xs (a * 256 + x) (fun y hy => h y (List.mem_cons_of_mem _ hy)) (by omega)
  refine ⟨ih.1, Int.lt_of_lt_of_le ih.2 ?_⟩
  have e : (a + 1) * 256 ^ (x :: xs).length = ((a + 1) * 256) * 256 ^ xs.length := by
   rw [List.length_cons, Int.pow_succ, Int.mul_comm (256 ^ xs.length) 256, Int.mul_assoc]
  rw [e]
  exact Int.mul_le_mul_of_nonneg_right (by omega) (Int.pow_nonneg (by decide))
theorem v6f {R : Type} (kk : List Int → Option R) : ∀ (j n : Nat) (x : Int) (out : List Int), j ≤ out.length → j < 1000 → j < n → gq137.l1 kk n x ((j : Int) - 1) out = kk (beL x j ++ out.drop j)
 | 0, n + 1, x, out, _, _, _ => by
  simp only [gq137.l1, uf (show ¬ ((0 : Nat) : Int) - 1 ≥ 0 by omega), cond_false]
  simp [beL]
 | j + 1, n + 1, x, out, h1, h2, h3 => by
  have e : (((j + 1 : Nat) : Int) - 1) = j := by omega
  rw [e]
  simp only [gq137.l1]
  rw [ud (by omega : (j : Int) ≥ 0), cond_true, u10 (u17 (by omega) (by omega)), u10 (ud1 (by omega)), wr (by omega) (by omega), shr8, wr8m]
  rw [v6f kk j n (x / 256) _ (by simp [setE]; omega) (by omega) (by omega)]
  congr 1
  have hj : j < out.length := by omega
  simp only [setE, Int.toNat_natCast, beL, List.append_assoc]
  congr 1
  rw [List.drop_set_of_lt_drop hj]
where
 List.drop_set_of_lt_drop {out : List Int} {j : Nat} {a : Int} (hj : j < out.length) : (out.set j a).drop j = [a] ++ out.drop (j + 1) := by
  rw [List.drop_eq_getElem_cons (by simpa using hj), List.getElem_set_self, List.drop_set_of_lt (by omega)]
  rfl
theorem ud5 (x : Int) (m : Nat) (h : m < 1000) : gq137 x m = some (strL (beL x m)) := by
 obtain ⟨q, hq⟩ := vbc (n := m) (by omega)
 have hl : (List.replicate (Int.toNat (m : Int)) (0 : Int)).length = m := by simp
 unfold gq137 gq137.F
 rw [u10 (gMk_t (by omega) (by omega) (by omega)), wr (by omega) (by omega), v6f _ m fuel x _ (by omega) h (by omega)]
 congr 2
 rw [List.drop_of_length_le (by omega), List.append_nil]
theorem uda {R : Type} (kk : Int → Option R) (l : List Int) (h : IsBytes l) (hl : l.length ≤ 7) : ∀ (j n : Nat) (a : Int), j ≤ l.length → j < n → 0 ≤ a → a < 256 ^ (l.length - j) →
  gq103.l1 kk n (strL l) a l.length ((l.length - j : Nat) : Int) = kk (beN a (l.drop (l.length - j)))
 | 0, n + 1, a, _, _, _, _ => by
  simp only [gq103.l1, Nat.sub_zero, uf (show ¬ (l.length : Int) < l.length by omega), cond_false, List.drop_length, beN]
 | j + 1, n + 1, a, h1, h2, h3, h4 => by
  have hi : l.length - (j + 1) < l.length := by omega
  have hb := h.get hi
  have h6 : a < 256 ^ 6 := Int.lt_of_lt_of_le h4 (by
   have : (256 : Int) ^ (l.length - (j + 1)) ≤ 256 ^ 6 := v7c (by omega)
   exact this)
  simp only [gq103.l1]
  rw [ud (by omega : ((l.length - (j + 1) : Nat) : Int) < l.length), cond_true, u10 (ud1 (by omega)), u10 (u17 (by omega) (by rw [u11]; omega)), u22 h (by omega) (by omega), shl8]
  have e0 : l.getD (Int.toNat ((l.length - (j + 1) : Nat) : Int)) 0 = l[l.length - (j + 1)] := by
   rw [Int.toNat_natCast, List.getD_eq_getElem?_getD, List.getElem?_eq_getElem hi]; rfl
  rw [e0]
  have e1 : IntKind.wrap .i64 (a * 256) = a * 256 := wr (by omega) (by omega)
  rw [e1, wr (x := l[l.length - (j + 1)]) (by omega) (by omega), wr (x := a * 256 + l[l.length - (j + 1)]) (by omega) (by omega), wr (by omega) (by omega)]
  have e2 : (((l.length - (j + 1) : Nat) : Int) + 1) = ((l.length - j : Nat) : Int) := by omega
  rw [e2, uda kk l h hl j n _ (by omega) (by omega) (by omega) ?_]
  ·rw [u18 hi, show l.length - (j + 1) + 1 = l.length - j by omega]
   rfl
  ·have : (256 : Int) ^ (l.length - j) = 256 ^ (l.length - (j + 1)) * 256 := by
    rw [← Int.pow_succ]; congr 1; omega
   rw [this]
   omega
theorem u3c (l : List Int) (h : IsBytes l) (hl : l.length ≤ 7) : gq103 (strL l) = some (beN 0 l) := by
 unfold gq103 gq103.F
 rw [u11]
 have := uda (fun n_ => some n_) l h hl l.length fuel 0 (Nat.le_refl _) (by rw [u54]; omega) (by omega) (by simp)
 simpa using this
theorem u2b (n lo hi : Int) : gq67 n lo hi = some (decide (lo ≤ n) && decide (n ≤ hi)) := by
 unfold gq67 gq67.F
 by_cases h : n ≥ lo
 ·simp [h]
 ·simp [h]
theorem u58 (n lo hi : Int) : gq59 n lo hi = some (decide (lo ≤ n) && decide (n ≤ hi)) := by
 unfold gq59 gq59.F
 by_cases h : n ≥ lo
 ·simp [h]
 ·simp [h]
theorem bits32 (f : BitVec 32 → BitVec 32 → BitVec 32) (x y : Int) : bits .u32 f x y = ((f (BitVec.ofInt 32 x) (BitVec.ofInt 32 y)).toNat : Int) := by
 show IntKind.wrap .u32 ((f (BitVec.ofInt 32 x) (BitVec.ofInt 32 y)).toNat : Int) = _
 rw [wr32m]
 have := (f (BitVec.ofInt 32 x) (BitVec.ofInt 32 y)).isLt
 omega
theorem and32 (x y : Int) : iAnd .u32 x y = ((BitVec.ofInt 32 x &&& BitVec.ofInt 32 y).toNat : Int) := bits32 _ x y
def Turns : List Int := [7, 18, 17, 19, 6, 11, 25, 2, 13, 22]
theorem t2 : (2 : Int) ∈ Turns := by decide
theorem u1c {n : Nat} (h : n < 18446744073709551616) : n < fuel := by rw [u54]; exact h
theorem w84 {k : Kd} (xs : List (El k)) (i : Nat) (e : El k) : setE k xs i e = xs.set i e := rfl
theorem va4 {k : Kd} (xs : List (El k)) (i : Nat) (e : El k) : (setE k xs i e).length = xs.length := by simp [setE]
theorem rdE_setE {k : Kd} (xs : List (El k)) (i : Nat) (e : El k) (h : i < xs.length) : rdE k (setE k xs i e) i = e := by
 rw [u1b (by rw [va4]; exact h)]
 simp [setE]
theorem w43 {k : Kd} (xs : List (El k)) (i : Nat) (e e' : El k) : setE k (setE k xs i e) i e' = setE k xs i e' := by simp [setE]
theorem w3c (l : List Int) (m : Int) (h0 : 0 ≤ m) (h1 : m ≤ l.length) : gq191 (strL l) false m = some (strL (l.take m.toNat), strL (l.drop m.toNat), false) := by
 unfold gq191 gq191.F
 rw [cond_false, uf (by rw [u11]; omega), cond_false, u11, u10 (u4f (by omega) (by omega) (by omega)), u10 (u4f (by omega) (by omega) (by omega)), u36, u36, u3d, v56 l m rfl]
theorem w22 (l : List Int) (m : Int) (h1 : (l.length : Int) < m) : gq191 (strL l) false m = some (ByteArray.empty, strL l, true) := by
 unfold gq191 gq191.F
 rw [cond_false, ud (by rw [u11]; omega), cond_true]
theorem v42 (s : ByteArray) (m : Int) : gq191 s true m = some (ByteArray.empty, s, true) := rfl
theorem ubb : gq103 ByteArray.empty = some 0 := by
 have := u3c [] IsBytes.nil (by simp)
 exact this
theorem v27 (l : List Int) (hb : IsBytes l) (m : Nat) (hm : m ≤ 7) (h1 : m ≤ l.length) : gq182 (strL l) false m = some (beN 0 (l.take m), strL (l.drop m), false) := by
 unfold gq182 gq182.F
 rw [w3c l m (by omega) (by omega), Option.bind_some, Int.toNat_natCast, u3c _ (hb.take m) (by simp; omega)]
 rfl
theorem ua9 (l : List Int) (m : Int) (h1 : (l.length : Int) < m) : gq182 (strL l) false m = some (0, strL l, true) := by
 unfold gq182 gq182.F
 rw [w22 l m h1, Option.bind_some, ubb]
 rfl
theorem u83 (s : ByteArray) (m : Int) : gq182 s true m = some (0, s, true) := by
 unfold gq182 gq182.F
 rw [v42, Option.bind_some, ubb]
 rfl
theorem u9e (s : ByteArray) : gq183 s true = some (ByteArray.empty, s, true) := by
 unfold gq183 gq183.F
 rw [u83, Option.bind_some, v42]
 rfl
theorem rcnt_ok (a : Int) (l : List Int) (hb : IsBytes (a :: l)) (h : a ≤ l.length) : gq183 (strL (a :: l)) false = some (strL (l.take a.toNat), strL (l.drop a.toNat), false) := by
 have ha := hb a List.mem_cons_self
 unfold gq183 gq183.F
 have := v27 (a :: l) hb 1 (by omega) (by simp)
 rw [show ((1 : Nat) : Int) = 1 by rfl] at this
 rw [this, Option.bind_some]
 have e : beN 0 (List.take 1 (a :: l)) = a := by simp [beN]
 simp only [e, List.drop_succ_cons, List.drop_zero]
 rw [w3c l a (by omega) (by omega)]
 rfl
theorem rcnt_nil : gq183 (strL []) false = some (ByteArray.empty, strL [], true) := by
 unfold gq183 gq183.F
 rw [ua9 [] 1 (by simp), Option.bind_some, v42]
 rfl
theorem rcnt_no (a : Int) (l : List Int) (hb : IsBytes (a :: l)) (h : (l.length : Int) < a) : gq183 (strL (a :: l)) false = some (ByteArray.empty, strL l, true) := by
 have ha := hb a List.mem_cons_self
 unfold gq183 gq183.F
 have := v27 (a :: l) hb 1 (by omega) (by simp)
 rw [show ((1 : Nat) : Int) = 1 by rfl] at this
 rw [this, Option.bind_some]
 have e : beN 0 (List.take 1 (a :: l)) = a := by simp [beN]
 simp only [e, List.drop_succ_cons, List.drop_zero]
 rw [w22 l a h]
 rfl
theorem w7a {R : Type} (ke kr : Int → List Int → Int → Bool → Option R) (l : List Int) (hb : IsBytes l) (hl : l.length ≤ 1000000) (m : Nat) (hm : m ≤ 7) : ∀ (j n i p : Nat) (a : Int), i + j = m → j < n → p ≤ l.length → 0 ≤ a → a < 256 ^ i →
  gq98.l1 ke kr n m a i l p false = if p + j ≤ l.length then ke (beN a ((l.drop p).take j)) l ((p + j : Nat) : Int) false else kr 0 l l.length true
 | 0, n + 1, i, p, a, e, _, hp, h0, h1 => by
  simp only [gq98.l1, uf (show ¬ (i : Int) < m by omega), cond_false, Nat.add_zero, if_pos hp, List.take_zero, beN]
 | j + 1, n + 1, i, p, a, e, hn, hp, h0, h1 => by
  simp only [gq98.l1, ud (show (i : Int) < m by omega), cond_true, cond_false]
  by_cases hlt : p < l.length
  ·have hg := hb.get hlt
   have h6 : a < 256 ^ 6 := Int.lt_of_lt_of_le h1 (v7c (by omega))
   have e256 : (256 : Int) ^ 6 = 281474976710656 := by decide
   rw [uf (by omega : ¬ (p : Int) ≥ l.length), cond_false, u10 (u17 (by omega) (by omega)), Int.toNat_natCast, u1b hlt]
   have e1 : IntKind.wrap .i64 (a * 256) = a * 256 := wr (by omega) (by omega)
   rw [e1, wr (x := l[p]) (by omega) (by omega), wr (x := a * 256 + l[p]) (by omega) (by omega), wr (x := (i : Int) + 1) (by omega) (by omega), wr (x := (p : Int) + 1) (by omega) (by omega)]
   have := w7a ke kr l hb hl m hm j n (i + 1) (p + 1) (a * 256 + l[p]) (by omega) (by omega) (by omega) (by omega) (by rw [Int.pow_succ]; omega)
   rw [show ((i : Int) + 1) = ((i + 1 : Nat) : Int) by omega, show ((p : Int) + 1) = ((p + 1 : Nat) : Int) by omega, this]
   rw [show p + 1 + j = p + (j + 1) by omega, u18 hlt]
   rfl
  ·rw [ud (by omega : (p : Int) ≥ l.length), cond_true, if_neg (by omega)]
   congr 1
   omega
theorem v4f (l : List Int) (hb : IsBytes l) (hl : l.length ≤ 1000000) (m : Nat) (hm : m ≤ 7) (p : Nat) (hp : p ≤ l.length) :
  gq98 l p false m = if p + m ≤ l.length then some (beN 0 ((l.drop p).take m), l, ((p + m : Nat) : Int), false) else some (0, l, (l.length : Int), true) := by
 unfold gq98 gq98.F
 exact w7a _ _ l hb hl m hm m fuel 0 p 0 (by omega) (by rw [u54]; omega) hp (by omega) (by simp)
theorem vd7 (l : List Int) (p : Int) (m : Int) (h : 0 < m) : gq98 l p true m = some (0, l, p, true) := by
 unfold gq98 gq98.F
 obtain ⟨q, hq⟩ := vbc (n := 0) (by omega)
 rw [hq]
 simp only [gq98.l1, ud h, cond_true]
theorem ude (l : List Int) (p m : Int) : gq184 l p true m = some (ByteArray.empty, l, p, true) := rfl
theorem stext_eq (l : List Int) (hl : l.length ≤ 1000000) (p : Nat) (hp : p ≤ l.length) (m : Int) (h0 : 0 ≤ m) (h1 : m ≤ 1000000) :
  gq184 l p false m = if p + m.toNat ≤ l.length then some (strL ((l.drop p).take m.toNat), l, ((p + m.toNat : Nat) : Int), false) else some (ByteArray.empty, l, (p : Int), true) := by
 unfold gq184 gq184.F
 rw [cond_false, uf (by omega : ¬ m < 0), cond_false, wr (by omega) (by omega)]
 by_cases h : p + m.toNat ≤ l.length
 ·rw [uf (by omega), cond_false, wr (by omega) (by omega), u10 (u4f (by omega) (by omega) (by omega)), if_pos h]
  have e1 : ((p : Int) + m - m) = p := by omega
  have e2 : ((p : Int) + m) = ((p + m.toNat : Nat) : Int) := by omega
  rw [e1, e2]
  congr 3
  unfold sub
  rw [Int.toNat_natCast, Int.toNat_natCast, List.drop_take]
  congr 1
  omega
 ·rw [ud (by omega), cond_true, if_neg h]
theorem xorN (k : IntKind) (hk : k = .u32 ∨ k = .i64) (a b : Nat) (ha : a < 4294967296) (hb : b < 4294967296) : iXor k (a : Int) (b : Int) = ((a ^^^ b : Nat) : Int) := by
 have hx : a ^^^ b < 4294967296 := Nat.xor_lt_two_pow (n := 32) ha hb
 rcases hk with rfl | rfl
 ·unfold iXor bits
  rw [BitVec.toNat_xor, BitVec.ofInt_natCast, BitVec.ofInt_natCast, BitVec.toNat_ofNat, BitVec.toNat_ofNat, Nat.mod_eq_of_lt (show a < 2 ^ IntKind.bits .u32 from ha), Nat.mod_eq_of_lt (show b < 2 ^ IntKind.bits .u32 from hb), wr32m]
  omega
 ·unfold iXor bits
  rw [BitVec.toNat_xor, BitVec.ofInt_natCast, BitVec.ofInt_natCast, BitVec.toNat_ofNat, BitVec.toNat_ofNat, Nat.mod_eq_of_lt (show a < 2 ^ IntKind.bits .i64 from by simp [IntKind.bits]; omega), Nat.mod_eq_of_lt (show b < 2 ^ IntKind.bits .i64 from by simp [IntKind.bits]; omega), wr (by omega) (by omega)]
def bitN (n : Nat) : Nat := if n % 2 = 1 then (n / 2) ^^^ 3988292384 else n / 2
theorem va8 {n : Nat} (h : n < 4294967296) : bitN n < 4294967296 := by
 unfold bitN
 split
 ·exact Nat.xor_lt_two_pow (n := 32) (by omega) (by decide)
 ·omega
def v23 : Nat → Nat → Nat
 | 0, n => n
 | m + 1, n => v23 m (bitN n)
theorem uca : ∀ {m n : Nat}, n < 4294967296 → v23 m n < 4294967296
 | 0, _, h => h
 | m + 1, _, h => uca (m := m) (va8 h)
def crcF (n : Nat) : List Int → Nat
 | [] => n
 | b :: l => crcF (v23 8 (n ^^^ b.toNat)) l
theorem v37 : ∀ {l : List Int} {n : Nat}, IsBytes l → n < 4294967296 → crcF n l < 4294967296
 | [], _, _, h => h
 | b :: l, n, hb, h => by
  have h0 := hb b (by simp)
  exact v37 (l := l) (fun y hy => hb y (by simp [hy])) (uca (Nat.xor_lt_two_pow (n := 32) h (by omega)))
def crcV (l : List Int) : Int := ((crcF 4294967295 l ^^^ 4294967295 : Nat) : Int)
theorem ufb {l : List Int} (h : IsBytes l) : 0 ≤ crcV l ∧ crcV l < 4294967296 := by
 have := Nat.xor_lt_two_pow (n := 32) (v37 h (show 4294967295 < 4294967296 by decide)) (show (4294967295 : Nat) < 2 ^ 32 by decide)
 unfold crcV
 omega
theorem shr32_1 (n : Nat) : iShr .u32 (n : Int) 1 = ((n / 2 : Nat) : Int) := by
 unfold iShr
 rw [show min (1 : Int).toNat (IntKind.bits .u32) = 1 from rfl, Int.fdiv_eq_ediv_of_nonneg _ (by decide)]
 omega
theorem and32_1 (n : Nat) (h : n < 4294967296) : iAnd .u32 (n : Int) 1 = ((n % 2 : Nat) : Int) := by
 rw [and32, BitVec.toNat_and, BitVec.ofInt_natCast, BitVec.toNat_ofNat, Nat.mod_eq_of_lt (show n < 2 ^ 32 from h), show (BitVec.ofInt 32 1).toNat = 1 from rfl, Nat.and_one_is_mod]
theorem w8a {R : Type} (kk : ByteArray → Int → Int → Int → Option R) (s : ByteArray) (a b : Int) : ∀ (m fu j n : Nat), j + m = 8 → m < fu → n < 4294967296 → gq176.l1 kk fu s (n : Int) a b (j : Int) = kk s (v23 m n : Nat) a b
 | 0, fu + 1, j, n, e, _, _ => by
  simp only [gq176.l1]
  rw [uf (by omega), cf]
  rfl
 | m + 1, fu + 1, j, n, e, hf, hn => by
  simp only [gq176.l1]
  rw [ud (by omega), ct, u10 (ud1 (by decide)), and32_1 n hn, shr32_1, wr (by omega) (by omega), show ((j : Int) + 1) = ((j + 1 : Nat) : Int) by omega]
  have hb := va8 hn
  by_cases h : n % 2 = 1
  ·rw [show (((n % 2 : Nat) : Int) == 1) = true by rw [h]; rfl, ct, show (3988292384 : Int) = ((3988292384 : Nat) : Int) from rfl, xorN .u32 (.inl rfl) _ _ (by omega) (by decide)]
   have := w8a kk s a b m fu (j + 1) (bitN n) (by omega) (by omega) hb
   rw [show bitN n = (n / 2) ^^^ 3988292384 by rw [bitN, if_pos h]] at this
   rw [this, v23, bitN, if_pos h]
  ·rw [show (((n % 2 : Nat) : Int) == 1) = false by simp; omega, cf]
   have := w8a kk s a b m fu (j + 1) (bitN n) (by omega) (by omega) hb
   rw [show bitN n = n / 2 by rw [bitN, if_neg h]] at this
   rw [this, v23, bitN, if_neg h]
theorem w79 {R : Type} (kk : List Int → Int → Int → Option R) (s : List Int) (a : Int) : ∀ (m fu j n : Nat), j + m = 8 → m < fu → n < 4294967296 → gq151.l1 kk fu s (n : Int) a (j : Int) = kk s (v23 m n : Nat) a
 | 0, fu + 1, j, n, e, _, _ => by
  simp only [gq151.l1]
  rw [uf (by omega), cf]
  rfl
 | m + 1, fu + 1, j, n, e, hf, hn => by
  simp only [gq151.l1]
  rw [ud (by omega), ct, u10 (u61 (by decide)), u10 (u61 (by decide)), u35 (by omega), u6e (by omega), wr (x := (n : Int) / 2) (by omega) (by omega), wr (x := (j : Int) + 1) (by omega) (by omega), show ((j : Int) + 1) = ((j + 1 : Nat) : Int) by omega, show ((n : Int) / 2) = ((n / 2 : Nat) : Int) by omega]
  have hb := va8 hn
  by_cases h : n % 2 = 1
  ·rw [show (((n : Int) % 2) == 1) = true by rw [show ((n : Int) % 2) = 1 by omega]; rfl, ct, show (3988292384 : Int) = ((3988292384 : Nat) : Int) from rfl, xorN .i64 (.inr rfl) _ _ (by omega) (by decide)]
   have := w79 kk s a m fu (j + 1) (bitN n) (by omega) (by omega) hb
   rw [show bitN n = (n / 2) ^^^ 3988292384 by rw [bitN, if_pos h]] at this
   rw [this, v23, bitN, if_pos h]
  ·rw [show (((n : Int) % 2) == 1) = false by simp; omega, cf, u10 (u61 (by decide))]
   have := w79 kk s a m fu (j + 1) (bitN n) (by omega) (by omega) hb
   rw [show bitN n = n / 2 by rw [bitN, if_neg h]] at this
   rw [this, v23, bitN, if_neg h]
theorem crcl_i {R : Type} (kk : Int → Option R) (l : List Int) (hb : IsBytes l) (hl : l.length ≤ 1000000000000) : ∀ (m fu j n : Nat), j + m = l.length → m < fu → n < 4294967296 → gq176.l2 kk fu (strL l) (n : Int) (l.length : Int) (j : Int) = kk (crcF n (l.drop j) : Nat)
 | 0, fu + 1, j, n, e, _, _ => by
  simp only [gq176.l2]
  rw [uf (by omega), cf, List.drop_of_length_le (by omega)]
  rfl
 | m + 1, fu + 1, j, n, e, hf, hn => by
  have hj : j < l.length := by omega
  have hbj := hb.get hj
  simp only [gq176.l2]
  rw [ud (by omega), ct, u10 (u17 (by omega) (by rw [u11]; omega)), u22 hb (by omega) (by omega), Int.toNat_natCast, List.getD_eq_getElem?_getD, List.getElem?_eq_getElem hj, Option.getD_some, wr32m, Int.emod_eq_of_lt hbj.1 (by omega),
   show l[j] = ((l[j].toNat : Nat) : Int) by omega, xorN .u32 (.inl rfl) _ _ hn (by omega), show (0 : Int) = ((0 : Nat) : Int) from rfl, w8a _ _ _ _ 8 fuel 0 _ (by omega) (u1c (by decide)) (Nat.xor_lt_two_pow (n := 32) hn (by omega)), wr (by omega) (by omega), show ((j : Int) + 1) = ((j + 1 : Nat) : Int) by omega]
  rw [crcl_i kk l hb hl m fu (j + 1) _ (by omega) (by omega) (uca (Nat.xor_lt_two_pow (n := 32) hn (by omega))), u18 hj]
  rfl
theorem crcl_s {R : Type} (kk : Int → Option R) (l : List Int) (hb : IsBytes l) (hl : l.length ≤ 1000000000000) : ∀ (m fu j n : Nat), j + m = l.length → m < fu → n < 4294967296 → gq151.l2 kk fu l (n : Int) (j : Int) = kk (crcF n (l.drop j) : Nat)
 | 0, fu + 1, j, n, e, _, _ => by
  simp only [gq151.l2]
  rw [uf (by omega), cf, List.drop_of_length_le (by omega)]
  rfl
 | m + 1, fu + 1, j, n, e, hf, hn => by
  have hj : j < l.length := by omega
  have hbj := hb.get hj
  simp only [gq151.l2]
  rw [ud (by omega), ct, u10 (u17 (by omega) (by omega)), Int.toNat_natCast, u1b (k := .int .u8) hj, wr (x := l[j]) (by omega) (by omega),
   show l[j] = ((l[j].toNat : Nat) : Int) by omega, xorN .i64 (.inr rfl) _ _ hn (by omega), show (0 : Int) = ((0 : Nat) : Int) from rfl, w79 _ _ _ 8 fuel 0 _ (by omega) (u1c (by decide)) (Nat.xor_lt_two_pow (n := 32) hn (by omega)), wr (by omega) (by omega), show ((j : Int) + 1) = ((j + 1 : Nat) : Int) by omega]
  rw [crcl_s kk l hb hl m fu (j + 1) _ (by omega) (by omega) (uca (Nat.xor_lt_two_pow (n := 32) hn (by omega))), u18 hj]
  rfl
theorem check_i (l : List Int) (hb : IsBytes l) (hl : l.length ≤ 1000000000000) : gq176 (strL l) = some (crcV l) := by
 unfold gq176 gq176.F
 have hc := v37 hb (show 4294967295 < 4294967296 by decide)
 rw [u11, show (4294967295 : Int) = ((4294967295 : Nat) : Int) from rfl, show (0 : Int) = ((0 : Nat) : Int) from rfl, crcl_i _ l hb hl l.length fuel 0 4294967295 (by omega) (u1c (by omega)) (by decide), List.drop_zero,
  show IntKind.max .u32 = ((4294967295 : Nat) : Int) from rfl, xorN .u32 (.inl rfl) _ _ (by decide) hc, Nat.xor_comm]
 have := ufb hb
 unfold crcV at this ⊢
 rw [wr (by omega) (by omega)]
theorem check_s (l : List Int) (hb : IsBytes l) (hl : l.length ≤ 1000000000000) : gq151 l = some (crcV l) := by
 unfold gq151 gq151.F
 have hc := v37 hb (show 4294967295 < 4294967296 by decide)
 rw [show (4294967295 : Int) = ((4294967295 : Nat) : Int) from rfl, show (0 : Int) = ((0 : Nat) : Int) from rfl, crcl_s _ l hb hl l.length fuel 0 4294967295 (by omega) (u1c (by omega)) (by decide), List.drop_zero, xorN .i64 (.inr rfl) _ _ hc (by decide)]
 rfl
def frL (d : List Int) : List Int := (beL d.length 2 ++ beL (crcV (beL d.length 2 ++ d)) 4) ++ d
theorem ucc {d : List Int} (h : IsBytes d) : IsBytes (frL d) := ((u25 _ _).append (u25 _ _)).append h
theorem u34 (d : List Int) : (frL d).length = 6 + d.length := by simp only [frL, List.length_append, u14]
theorem two_s (n : Int) (h0 : 0 ≤ n) (h1 : n < 65536) : gq150 n = some (beL n 2) := by
 unfold gq150 gq150.F
 rw [u10 (u61 (by decide)), u6e h0, wr (x := n / 256) (by omega) (by omega), wr8m, wr8m]
 rfl
theorem four_s (n : Int) (h0 : 0 ≤ n) (h1 : n < 4294967296) : gq133 n = some (beL n 4) := by
 unfold gq133 gq133.F
 rw [u10 (ud1 (by decide)), u10 (ud1 (by decide)), u10 (ud1 (by decide)), shr8, shr16, shr24, wr8m, wr8m, wr8m, wr8m]
 have e1 : n / 65536 = n / 256 / 256 := by omega
 have e2 : n / 16777216 = n / 256 / 256 / 256 := by omega
 rw [e1, e2]
 rfl
theorem vb1 (d : List Int) (h : IsBytes d) (hl : d.length < 65536) : gq155 (strL d) = some (strL (frL d)) := by
 unfold gq155 gq155.F
 rw [u11, show (2 : Int) = ((2 : Nat) : Int) from rfl, ud5 _ 2 (by decide), bs, u10 (u43 (by rw [u11, u11, u14]; omega)), u27, check_i _ ((u25 _ _).append h) (by rw [List.length_append, u14]; omega), bs,
  show (4 : Int) = ((4 : Nat) : Int) from rfl, ud5 _ 4 (by decide), bs, u10 (u43 (by rw [u11, u11, u14, u14]; omega)), u27, u10 (u43 (by rw [u11, u11, List.length_append, u14, u14]; omega)), u27]
 rfl
theorem vaf (d : List Int) (h : IsBytes d) (hl : d.length < 65536) : gq110 d = some (frL d) := by
 unfold gq110 gq110.F
 have hc := ufb (l := beL d.length 2 ++ d) ((u25 _ _).append h)
 rw [two_s _ (by omega) (by omega), bs, List.nil_append, u10 (u28 (by simp [u14])), u10 (u28 (by rw [u14]; omega)), check_s _ ((u25 _ _).append h) (by rw [List.length_append, u14]; omega), bs, four_s _ hc.1 hc.2, bs,
  u10 (u28 (by rw [u14, u14]; omega)), u10 (u28 (by rw [List.length_append, u14, u14]; omega))]
 rfl
def frAt (l : List Int) : List Int × Int :=
 if l.length < 6 then ([], 16)
 else if ¬ (1 ≤ beN 0 (l.take 2) ∧ beN 0 (l.take 2) ≤ 200) then ([], 8)
 else if l.length < 6 + (beN 0 (l.take 2)).toNat then ([], 16)
 else if frL ((l.drop 6).take (beN 0 (l.take 2)).toNat) = l.take (6 + (beN 0 (l.take 2)).toNat) then ((l.drop 6).take (beN 0 (l.take 2)).toNat, 0)
 else ([], 8)
theorem u6c (l : List Int) (a n : Nat) : sub l (a : Int) ((a + n : Nat) : Int) = (l.drop a).take n := by
 unfold sub
 rw [Int.toNat_natCast, Int.toNat_natCast, List.drop_take, Nat.add_sub_cancel_left]
theorem w68 (l : List Int) (h : IsBytes l) (hl : l.length ≤ 1000000000000) : gq148 (strL l) = some (strL (frAt l).1, (frAt l).2) := by
 unfold gq148 gq148.F frAt
 rw [u11]
 by_cases h6 : l.length < 6
 ·rw [ud (by omega), ct, if_pos h6]
  rfl
 ·rw [uf (by omega), cf, if_neg h6, u10 (u4f (by decide) (by decide) (by omega)), u36, show sub l 0 2 = l.take 2 by simp [sub], u3c _ (h.take 2) (by simp; omega), bs, u2b, bs]
  obtain ⟨n, hn⟩ : ∃ n, beN 0 (l.take 2) = n := ⟨_, rfl⟩
  rw [hn]
  by_cases hr : 1 ≤ n ∧ n ≤ 200
  ·rw [ud hr.1, ud hr.2, Bool.and_self, Bool.not_true, cf, if_neg (fun h => h hr), wr (by omega) (by omega)]
   obtain ⟨q, rfl⟩ : ∃ q : Nat, n = q := ⟨n.toNat, by omega⟩
   rw [Int.toNat_natCast, show ((6 : Int) + (q : Int)) = ((6 + q : Nat) : Int) by omega]
   by_cases hs : l.length < 6 + q
   ·rw [ud (by omega), ct, if_pos hs]
    rfl
   ·rw [uf (by omega), cf, if_neg hs, u10 (u4f (by decide) (by omega) (by omega)), u36, show sub l 6 ((6 + q : Nat) : Int) = (l.drop 6).take q from u6c l 6 q, vb1 _ ((h.drop 6).take q) (by simp; omega), bs,
     u10 (u4f (by decide) (by omega) (by omega)), u36, show sub l 0 ((6 + q : Nat) : Int) = l.take (6 + q) by rw [u3d, Int.toNat_natCast], u84 (ucc ((h.drop 6).take q)) (h.take _)]
    by_cases hf : frL ((l.drop 6).take q) = l.take (6 + q)
    ·rw [ud hf, Bool.not_true, cf, if_pos hf, u10 (u4f (by decide) (by omega) (by omega))]
    ·rw [uf hf, Bool.not_false, ct, if_neg hf]
     rfl
  ·rw [show (decide (1 ≤ n) && decide (n ≤ 200)) = false by rw [← Bool.not_eq_true, Bool.and_eq_true, decide_eq_true_iff, decide_eq_true_iff]; exact hr, Bool.not_false, ct, if_pos hr]
   rfl
theorem w2e (l : List Int) : (frAt l).2 = 0 ∨ (frAt l).2 = 8 ∨ (frAt l).2 = 16 := by
 unfold frAt
 repeat' split
 all_goals simp
theorem w50 {l : List Int} (hc : (frAt l).2 = 0) : 1 ≤ (frAt l).1.length ∧ (frAt l).1.length ≤ 200 ∧ 6 + (frAt l).1.length ≤ l.length := by
 unfold frAt at hc ⊢
 split at hc
 ·simp at hc
 ·rename_i h1
  rw [if_neg h1]
  split at hc
  ·simp at hc
  ·rename_i h2
   rw [if_neg h2]
   split at hc
   ·simp at hc
   ·rename_i h3
    rw [if_neg h3]
    split at hc
    ·rename_i h4
     rw [if_pos h4]
     have h2 := Classical.not_not.1 h2
     rw [List.length_take, List.length_drop]
     omega
    ·simp at hc
def frs : Nat → List Int → List ByteArray × Nat × Int
 | 0, _ => ([], 0, 0)
 | m + 1, l => if l.length = 0 then ([], 0, 0)
  else if (frAt l).2 = 0 then (strL (frAt l).1 :: (frs m (l.drop (6 + (frAt l).1.length))).1, 6 + (frAt l).1.length + (frs m (l.drop (6 + (frAt l).1.length))).2.1, (frs m (l.drop (6 + (frAt l).1.length))).2.2)
  else ([], 0, (frAt l).2)
theorem vd5 : ∀ (m : Nat) (l : List Int), (frs m l).2.2 = 0 ∨ (frs m l).2.2 = 8 ∨ (frs m l).2.2 = 16
 | 0, l => .inl rfl
 | m + 1, l => by
  unfold frs
  split
  ·exact .inl rfl
  ·split
   ·exact vd5 m _
   ·exact w2e l
theorem vcb : ∀ (m : Nat) (l : List Int), (frs m l).1.length ≤ m ∧ (∀ s ∈ (frs m l).1, s.size ≤ 200) ∧ (frs m l).2.1 ≤ l.length
 | 0, l => ⟨Nat.le_refl _, (fun s h => by cases h), Nat.zero_le _⟩
 | m + 1, l => by
  unfold frs
  split
  ·exact ⟨by simp, (fun s h => by cases h), Nat.zero_le _⟩
  ·split
   ·rename_i hc
    have h0 := w50 hc
    obtain ⟨h1, h2, h3⟩ := vcb m (l.drop (6 + (frAt l).1.length))
    refine ⟨by simp; omega, fun s hs => ?_, ?_⟩
    ·rcases List.mem_cons.1 hs with rfl | hs
     ·rw [u11]; omega
     ·exact h2 s hs
    ·rw [List.length_drop] at h3
     show 6 + (frAt l).1.length + _ ≤ _
     omega
   ·exact ⟨by simp, (fun s h => by cases h), Nat.zero_le _⟩
def ud6 {R : Type} (kke : Int → List ByteArray → Option R) (kkr : Int → Int → List ByteArray → Option R) (p : Nat) (out : List ByteArray) (r : List ByteArray × Nat × Int) : Option R :=
 if r.2.2 = 0 then kke ((p + r.2.1 : Nat) : Int) (out ++ r.1) else kkr ((p + r.2.1 : Nat) : Int) r.2.2 (out ++ r.1)
theorem uf8 {R : Type} (kke : Int → List ByteArray → Option R) (kkr : Int → Int → List ByteArray → Option R) (p : Nat) (out : List ByteArray) (m : Nat) (l : List Int) (hl : l.length ≠ 0) (hc : (frAt l).2 = 0) :
  ud6 kke kkr p out (frs (m + 1) l) = ud6 kke kkr (p + (6 + (frAt l).1.length)) (out ++ [strL (frAt l).1]) (frs m (l.drop (6 + (frAt l).1.length))) := by
 unfold ud6
 rw [show frs (m + 1) l = (strL (frAt l).1 :: (frs m (l.drop (6 + (frAt l).1.length))).1, 6 + (frAt l).1.length + (frs m (l.drop (6 + (frAt l).1.length))).2.1, (frs m (l.drop (6 + (frAt l).1.length))).2.2) by rw [frs, if_neg hl, if_pos hc]]
 dsimp only
 rw [List.append_assoc, List.singleton_append, Nat.add_assoc p]
theorem u66 {R : Type} (kke : Int → List ByteArray → Option R) (kkr : Int → Int → List ByteArray → Option R) (p : Nat) (out : List ByteArray) (m : Nat) (l : List Int) (hl : l.length ≠ 0) (hc : ¬ (frAt l).2 = 0) :
  ud6 kke kkr p out (frs (m + 1) l) = kkr (p : Int) (frAt l).2 out := by
 unfold ud6
 rw [show frs (m + 1) l = ([], 0, (frAt l).2) by rw [frs, if_neg hl, if_neg hc]]
 dsimp only
 rw [if_neg hc, List.append_nil, Nat.add_zero]
theorem u98 {R : Type} (kke : Int → List ByteArray → Option R) (kkr : Int → Int → List ByteArray → Option R) (p : Nat) (out : List ByteArray) (m : Nat) (l : List Int) (hl : l.length = 0) :
  ud6 kke kkr p out (frs m l) = kke (p : Int) out := by
 unfold ud6
 have : frs m l = ([], 0, 0) := by
  cases m with
  | zero => rfl
  | succ m => rw [frs, if_pos hl]
 rw [this]
 simp
theorem cut_drop (l : List Int) (p : Nat) (hp : p ≤ l.length) : cut (strL l) (p : Int) (l.length : Int) = strL (l.drop p) := by
 rw [u36]
 unfold sub
 rw [Int.toNat_natCast, Int.toNat_natCast, List.take_length]
theorem frs_i {R : Type} (kke : Int → List ByteArray → Option R) (kkr : Int → Int → List ByteArray → Option R) (l : List Int) (hb : IsBytes l) (hl : l.length ≤ 1000000000) : ∀ (m fu p : Nat) (out : List ByteArray), l.length - p ≤ m → m < fu → p ≤ l.length → out.length + m ≤ 1000000000 →
  gq102.l1 kke kkr fu (strL l) (p : Int) out = ud6 kke kkr p out (frs m (l.drop p))
 | m, 0, p, out, _, h, _, _ => by omega
 | 0, fu + 1, p, out, h1, h2, h3, h4 => by
  simp only [gq102.l1]
  rw [u11, uf (by omega), cf, u98 _ _ _ _ _ _ (by simp; omega)]
 | m + 1, fu + 1, p, out, h1, h2, h3, h4 => by
  simp only [gq102.l1]
  rw [u11]
  by_cases hp : p < l.length
  ·have hne : (l.drop p).length ≠ 0 := by simp; omega
   rw [ud (by omega), ct, u10 (u4f (by omega) (by omega) (by omega)), cut_drop l p h3, w68 _ (hb.drop p) (by simp; omega), bs]
   dsimp only
   by_cases hc : (frAt (l.drop p)).2 = 0
   ·have h5 := w50 hc
    rw [List.length_drop] at h5
    rw [show ((frAt (l.drop p)).2 != 0) = false by rw [hc]; rfl, cf, u10 (u28 (by simp; omega)), u11, wr (x := (p : Int) + 6) (by omega) (by omega), wr (by omega) (by omega),
     show ((p : Int) + 6 + ((frAt (l.drop p)).1.length : Int)) = ((p + (6 + (frAt (l.drop p)).1.length) : Nat) : Int) by omega, frs_i kke kkr l hb hl m fu _ _ (by omega) (by omega) (by omega) (by simp; omega), uf8 _ _ _ _ _ _ hne hc, List.drop_drop]
   ·rw [show ((frAt (l.drop p)).2 != 0) = true by simp [hc], ct, u66 _ _ _ _ _ _ hne hc]
  ·rw [uf (by omega), cf, u98 _ _ _ _ _ _ (by simp; omega)]
theorem frs_s {R : Type} (kke : Int → List ByteArray → Option R) (kkr : Int → Int → List ByteArray → Option R) (l : List Int) (hb : IsBytes l) (hl : l.length ≤ 1000000000) : ∀ (m fu p : Nat) (out : List ByteArray), l.length - p ≤ m → m < fu → p ≤ l.length → out.length + m ≤ 1000000000 →
  gq97.l1 kke kkr fu l (p : Int) out = ud6 kke kkr p out (frs m (l.drop p))
 | m, 0, p, out, _, h, _, _ => by omega
 | 0, fu + 1, p, out, h1, h2, h3, h4 => by
  simp only [gq97.l1]
  rw [uf (by omega), cf, u98 _ _ _ _ _ _ (by simp; omega)]
 | m + 1, fu + 1, p, out, h1, h2, h3, h4 => by
  simp only [gq97.l1]
  by_cases hp : p < l.length
  ·have hne : (l.drop p).length ≠ 0 := by simp; omega
   have hld : (l.drop p).length = l.length - p := by simp
   rw [ud (by omega), ct, wr (x := (l.length : Int) - p) (by omega) (by omega)]
   by_cases h6 : l.length - p < 6
   ·have hf : frAt (l.drop p) = ([], 16) := by rw [frAt, if_pos (by omega)]
    rw [ud (by omega), ct, u66 _ _ _ _ _ _ hne (by rw [hf]; decide), hf]
   ·rw [uf (by omega), cf, wr (x := (p : Int) + 1) (by omega) (by omega), u10 (u17 (by omega) (by omega)), u10 (u17 (by omega) (by omega)), Int.toNat_natCast, show ((p : Int) + 1).toNat = p + 1 by omega, u1b (k := .int .u8) (show p < List.length (α := Int) l by omega), u1b (k := .int .u8) (show p + 1 < List.length (α := Int) l by omega)]
    have b0 := hb.get (show p < l.length by omega)
    have b1 := hb.get (show p + 1 < l.length by omega)
    rw [wr (x := l[p]) (by omega) (by omega), wr (x := l[p + 1]) (by omega) (by omega), wr (x := l[p] * 256) (by omega) (by omega), wr (x := l[p] * 256 + l[p + 1]) (by omega) (by omega)]
    have hv : beN 0 ((l.drop p).take 2) = l[p] * 256 + l[p + 1] := by
     have e : l.drop p = l[p] :: l[p + 1] :: l.drop (p + 2) := by rw [u18 (show p < l.length by omega), u18 (show p + 1 < l.length by omega)]
     rw [e]
     show (0 * 256 + l[p]) * 256 + l[p + 1] = _
     omega
    obtain ⟨q, hq⟩ : ∃ q : Nat, l[p] * 256 + l[p + 1] = (q : Int) := ⟨(l[p] * 256 + l[p + 1]).toNat, by omega⟩
    rw [hq]
    rw [hq] at hv
    by_cases hr : 1 ≤ (q : Int) ∧ (q : Int) ≤ 200
    ·rw [show ((q : Int) == 0) = false by simp; omega, cf, uf (by omega), cf, wr (x := (l.length : Int) - p - 6) (by omega) (by omega)]
     by_cases hs : l.length - p < 6 + q
     ·have hf : frAt (l.drop p) = ([], 16) := by rw [frAt, if_neg (by omega), if_neg (by rw [hv]; exact fun h => h hr), if_pos (by rw [hv, Int.toNat_natCast]; omega)]
      rw [ud (by omega), ct, u66 _ _ _ _ _ _ hne (by rw [hf]; decide), hf]
     ·rw [uf (by omega), cf, wr (x := (p : Int) + 6) (by omega) (by omega), wr (x := (p : Int) + 6 + q) (by omega) (by omega), u10 (u4f (by omega) (by omega) (by omega)), show ((p : Int) + 6) = ((p + 6 : Nat) : Int) by omega, show (((p + 6 : Nat) : Int) + (q : Int)) = ((p + 6 + q : Nat) : Int) by omega,
       u6c, vaf _ ((hb.drop _).take q) (by simp; omega), bs, u10 (u4f (by omega) (by omega) (by omega)), show ((p + 6 + q : Nat) : Int) = ((p + (6 + q) : Nat) : Int) by omega, u6c, u84 (ucc ((hb.drop _).take q)) ((hb.drop p).take _)]
      have hdd : (l.drop p).drop 6 = l.drop (p + 6) := List.drop_drop ..
      by_cases hf : frL ((l.drop (p + 6)).take q) = (l.drop p).take (6 + q)
      ·have hf' : frAt (l.drop p) = ((l.drop (p + 6)).take q, 0) := by rw [frAt, if_neg (by omega), if_neg (by rw [hv]; exact fun h => h hr), if_neg (by rw [hv, Int.toNat_natCast]; omega), hv, Int.toNat_natCast, hdd, if_pos hf]
       have hln : ((l.drop (p + 6)).take q).length = q := by simp; omega
       rw [ud hf, Bool.not_true, cf, u10 (u28 (by simp; omega)), wr (x := 6 + (q : Int)) (by omega) (by omega), wr (by omega) (by omega), show ((p : Int) + (6 + (q : Int))) = ((p + (6 + q) : Nat) : Int) by omega, frs_s kke kkr l hb hl m fu _ _ (by omega) (by omega) (by omega) (by simp; omega),
        uf8 _ _ _ _ _ _ hne (by rw [hf']), hf', hln, List.drop_drop]
      ·have hf' : frAt (l.drop p) = ([], 8) := by rw [frAt, if_neg (by omega), if_neg (by rw [hv]; exact fun h => h hr), if_neg (by rw [hv, Int.toNat_natCast]; omega), hv, Int.toNat_natCast, hdd, if_neg hf]
       rw [uf hf, Bool.not_false, ct, u66 _ _ _ _ _ _ hne (by rw [hf']; decide), hf']
    ·have hf : frAt (l.drop p) = ([], 8) := by rw [frAt, if_neg (by omega), if_pos (by rw [hv]; exact hr)]
     rw [u66 _ _ _ _ _ _ hne (by rw [hf]; decide), hf]
     by_cases hz : q = 0
     ·subst hz
      rfl
     ·rw [show ((q : Int) == 0) = false by simp; omega, cf, ud (by omega), ct]
  ·rw [uf (by omega), cf, u98 _ _ _ _ _ _ (by simp; omega)]
def frT (l : List Int) : List ByteArray × Int × Int := ((frs l.length l).1, ((frs l.length l).2.1 : Int), (frs l.length l).2.2)
theorem frames_i (l : List Int) (hb : IsBytes l) (hl : l.length ≤ 1000000000) : gq102 (strL l) = some (frT l) := by
 unfold gq102 gq102.F
 have := frs_i (fun used out => some (out, used, (0 : Int))) (fun i i1 l => some (l, i, i1)) l hb hl l.length fuel 0 [] (by omega) (u1c (by omega)) (by omega) (by simp; omega)
 rw [Int.natCast_zero, List.drop_zero] at this
 rw [this, ud6, frT, Nat.zero_add, List.nil_append]
 split
 ·rename_i h; rw [h]
 ·rfl
theorem frames_s (l : List Int) (hb : IsBytes l) (hl : l.length ≤ 1000000000) : gq97 l = some (frT l) := by
 unfold gq97 gq97.F
 have := frs_s (fun used out => some (out, used, (0 : Int))) (fun i i1 l => some (l, i, i1)) l hb hl l.length fuel 0 [] (by omega) (u1c (by omega)) (by omega) (by simp; omega)
 rw [Int.natCast_zero, List.drop_zero] at this
 rw [this, ud6, frT, Nat.zero_add, List.nil_append]
 split
 ·rename_i h; rw [h]
 ·rfl
theorem u9a {k : Kd} {R : Type} {L : Nat → List (El k) → Int → Int → Option R} {f : El k → Option (Bool × Unit)} {kke : Option R} {kkr : Int → Option R}
  (hL : ∀ n s i j, L (n + 1) s i j = cond (decide (j < i)) (grd (gIx j (List.length s)) ((f (rdE k s (Int.toNat j))).bind fun r => cond r.1 (kkr j) (L n s i (IntKind.wrap .i64 (j + 1))))) kke)
  {q : El k → Bool} {l : List (El k)} (hl : l.length ≤ 9223372036854775806) (hf : ∀ x ∈ l, f x = some (q x, ())) :
  ∀ (m n j : Nat), j + m = l.length → m < n → L n l l.length j = match (l.drop j).findIdx? q with | none => kke | some d => kkr ((j + d : Nat) : Int)
 | 0, n + 1, j, e, _ => by
  rw [hL, uf (by omega : ¬ (j : Int) < l.length), cond_false, List.drop_of_length_le (by omega)]
  rfl
 | m + 1, n + 1, j, e, h => by
  have hj : j < l.length := by omega
  rw [hL, ud (by omega : (j : Int) < l.length), cond_true, u10 (u17 (by omega) (by omega)), Int.toNat_natCast, u1b hj, hf _ (List.getElem_mem hj), Option.bind_some, u18 hj, List.findIdx?_cons]
  cases hq : q l[j] with
  | true => simp
  | false =>
   simp only [cond_false, Bool.false_eq_true, if_false]
   rw [wr (by omega) (by omega), show ((j : Int) + 1) = ((j + 1 : Nat) : Int) by omega, u9a hL hl hf m n (j + 1) (by omega) (by omega)]
   cases (l.drop (j + 1)).findIdx? q with
   | none => rfl
   | some d => simp only [Option.map_some]; congr 1; omega
theorem u8d {α : Type} (l : List α) (q : α → Bool) : (l.findIdx? q).isSome = l.any q := by
 induction l with
 | nil => rfl
 | cons x l ih =>
  rw [List.findIdx?_cons, List.any_cons]
  cases q x with
  | true => simp
  | false => simp [ih]
def u29 (n : Int) : Bool := decide (0 ≤ n) && decide (n ≤ 6)
def u74 : List Int → Bool
 | [] => true
 | x :: xs => (match xs with | [] => true | y :: _ => decide (x < y)) && u74 xs
def ubf (l : List Int) : Bool := decide (0 < l.length) && l.all u29 && u74 l
theorem va7 {α : Type} (q : α → Bool) (l : List α) : (!(l.any fun x => !q x)) = l.all q := by
 induction l with
 | nil => rfl
 | cons x l ih => rw [List.any_cons, List.all_cons, ← ih]; cases q x <;> simp
theorem v58 (l : List Int) (hl : l.length ≤ 9223372036854775806) : gq192 l = some (l.all u29) := by
 have h1 : gq192 l = some (!(l.any fun x => !u29 x)) := by
  unfold gq192 gq192.F gq198 gq198.F gq204 gq204.F
  have hq : ∀ x ∈ l, (fun x : Int => (fun t : Int × Unit => (gq199 t.1).bind fun a => some (a, ())) (x, ())) x = some (!u29 x, ()) := by
   intro x _
   simp only [gq199, gq199.F, u2b, Option.bind_some, u29]
  have := u9a (k := .int .i64) (L := gq204.l1 (fun t => (gq199 t.1).bind fun a => some (a, ())) (some (-1 : Int)) (fun i => some i)) (fun n s i j => rfl) hl hq l.length fuel 0 (by omega) (by rw [u54]; omega)
  rw [Int.natCast_zero] at this
  rw [this, List.drop_zero, ← u8d]
  cases l.findIdx? fun x => !u29 x with
  | none => rfl
  | some d => simp
 rw [h1, va7]
theorem v70 (l : List Int) (hl : l.length ≤ 9223372036854775806) : ∀ (m n j : Nat), j + 1 + m = l.length → m < n → gq193.l1 (some true) (fun b => some b) n l ((j + 1 : Nat) : Int) = some (u74 (l.drop j))
 | 0, n + 1, j, e, _ => by
  have hj : j < l.length := by omega
  simp only [gq193.l1, uf (show ¬ ((j + 1 : Nat) : Int) < l.length by omega), cond_false]
  rw [u18 hj, List.drop_of_length_le (by omega)]
  rfl
 | m + 1, n + 1, j, e, h => by
  have hj : j < l.length := by omega
  have hj1 : j + 1 < l.length := by omega
  simp only [gq193.l1, ud (show ((j + 1 : Nat) : Int) < l.length by omega), cond_true]
  rw [wr (x := ((j + 1 : Nat) : Int) - 1) (by omega) (by omega), wr (x := ((j + 1 : Nat) : Int) + 1) (by omega) (by omega)]
  rw [u10 (u17 (by omega) (by omega)), u10 (u17 (by omega) (by omega)), show (((j + 1 : Nat) : Int) - 1).toNat = j by omega, Int.toNat_natCast, u1b (k := .int .i64) hj, u1b (k := .int .i64) hj1]
  rw [show (((j + 1 : Nat) : Int) + 1) = ((j + 1 + 1 : Nat) : Int) by omega, v70 l hl m n (j + 1) (by omega) (by omega)]
  rw [u18 hj, u18 hj1]
  simp only [u74]
  by_cases hlt : l[j] < l[j + 1]
  ·rw [uf (by omega : ¬ l[j] ≥ l[j + 1]), cond_false, ud hlt, Bool.true_and]
  ·rw [ud (by omega : l[j] ≥ l[j + 1]), cond_true, uf hlt, Bool.false_and]
theorem v7e (l : List Int) (hl : l.length ≤ 9223372036854775806) : gq193 l = some (u74 l) := by
 unfold gq193 gq193.F
 rcases Nat.eq_zero_or_pos l.length with h | h
 ·rw [List.length_eq_zero_iff.1 h]
  obtain ⟨q, hq⟩ := vbc (n := 0) (by omega)
  rw [hq]
  rfl
 ·have := v70 l hl (l.length - 1) fuel 0 (by omega) (by rw [u54]; omega)
  rw [List.drop_zero] at this
  exact this
theorem v86 (l : List Int) (hl : l.length ≤ 9223372036854775806) : gq185 l = some (ubf l) := by
 unfold gq185 gq185.F ubf
 rw [v58 l hl, v7e l hl]
 by_cases h : 0 < l.length
 ·rw [ud (by omega : (l.length : Int) > 0), cond_true, Option.bind_some, ud h, Bool.true_and]
  cases l.all u29 <;> rfl
 ·rw [uf (by omega : ¬ (l.length : Int) > 0), cond_false, uf h, Bool.false_and, Bool.false_and]
theorem u87 (l : List Int) (hb : IsBytes l) (hl : l.length ≤ 1000000000000) {R : Type} (kk : List Int → Option R) : ∀ (m n j : Nat), j + m = l.length → m < n → gq166.l1 kk n (strL l) l.length j (l.take j) = kk l
 | 0, n + 1, j, e, _ => by
  simp only [gq166.l1, uf (show ¬ (j : Int) < l.length by omega), cond_false]
  rw [List.take_of_length_le (by omega)]
 | m + 1, n + 1, j, e, h => by
  have hj : j < l.length := by omega
  have hg := hb.get hj
  simp only [gq166.l1, ud (show (j : Int) < l.length by omega), cond_true]
  have e0 : l.getD (Int.toNat (j : Int)) 0 = l[j] := by
   rw [Int.toNat_natCast, List.getD_eq_getElem?_getD, List.getElem?_eq_getElem hj]; rfl
  rw [u10 (u17 (by omega) (by rw [u11]; omega)), u10 (u28 (by simp; omega)), u22 hb (by omega) (by omega), e0, wr (x := l[j]) (by omega) (by omega), wr (by omega) (by omega), ← u81 hj, show ((j : Int) + 1) = ((j + 1 : Nat) : Int) by omega]
  exact u87 l hb hl kk m n (j + 1) (by omega) (by omega)
theorem uef (l : List Int) (hb : IsBytes l) (hl : l.length ≤ 1000000000000) : gq166 (strL l) = some (l, ubf l) := by
 unfold gq166 gq166.F
 rw [u11]
 have := u87 l hb hl (fun out => (gq185 out).bind fun r => some (out, r)) l.length fuel 0 (by omega) (by rw [u54]; omega)
 rw [List.take_zero, Int.natCast_zero] at this
 rw [this, v86 l (by omega)]
 rfl
def memS (l : List Int) : Bool := l.all u29 && u74 l
theorem v8a (l : List Int) (j : Nat) (h1 : j + 1 < l.length) : memS (l.drop j) = (u29 (l[j]'(by omega)) && decide (l[j]'(by omega) < l[j + 1]) && memS (l.drop (j + 1))) := by
 rw [u18 (show j < l.length by omega), u18 h1]
 simp only [memS, List.all_cons, u74]
 cases u29 l[j] <;> cases u29 l[j + 1] <;> cases decide (l[j] < l[j + 1]) <;> simp
theorem u94 (l : List Int) (hb : IsBytes l) (hl : l.length ≤ 1000000000000) {R : Type} (ke : List Int → Option R) (kr : Bool → List Int → Option R) : ∀ (m n j : Nat), j + m = l.length → m < n → (j = 0 ∨ (0 < j ∧ ∃ h : j - 1 < l.length, u29 l[j - 1] = true)) →
  gq159.l1 ke kr n (strL l) j (l.take j) = if memS (l.drop (j - 1)) = true then ke l else kr false []
 | 0, n + 1, j, e, _, h0 => by
  simp only [gq159.l1]
  rw [uf (show ¬ (j : Int) < (strL l).size by rw [u11]; omega), cond_false, List.take_of_length_le (by omega)]
  rw [if_pos]
  rcases h0 with rfl | ⟨hp, h, h1⟩
  ·rw [show l = [] from List.length_eq_zero_iff.1 (by omega)]; rfl
  ·rw [u18 h, show j - 1 + 1 = j by omega, List.drop_of_length_le (by omega)]
   simp [memS, u74, h1]
 | m + 1, n + 1, j, e, hn, h0 => by
  have hj : j < l.length := by omega
  have hg := hb.get hj
  have e0 : u21 (strL l) (j : Int) = l[j] := by
   rw [u22 hb (by omega) (by omega), Int.toNat_natCast, List.getD_eq_getElem?_getD, List.getElem?_eq_getElem hj]; rfl
  simp only [gq159.l1]
  rw [ud (show (j : Int) < (strL l).size by rw [u11]; omega), cond_true, e0, wr (x := l[j]) (by omega) (by omega), u58, Option.bind_some]
  rw [u10 (u17 (by omega) (by rw [u11]; omega)), show (decide ((0 : Int) ≤ l[j]) && decide (l[j] ≤ 6)) = u29 l[j] from rfl]
  have hrec : gq159.l1 ke kr n (strL l) ((j + 1 : Nat) : Int) (l.take (j + 1)) = if u29 l[j] = true then (if memS (l.drop j) = true then ke l else kr false []) else gq159.l1 ke kr n (strL l) ((j + 1 : Nat) : Int) (l.take (j + 1)) := by
   by_cases hs : u29 l[j] = true
   ·rw [if_pos hs, u94 l hb hl ke kr m n (j + 1) (by omega) (by omega) (.inr ⟨by omega, by omega, by simpa using hs⟩)]
    rfl
   ·rw [if_neg hs]
  rw [wr (x := (j : Int) + 1) (by omega) (by omega), wr (x := (j : Int) - 1) (by omega) (by omega), u10 (u28 (by simp; omega)), ← u81 hj, show ((j : Int) + 1) = ((j + 1 : Nat) : Int) by omega]
  cases hs : u29 l[j] with
  | false =>
   simp only [Bool.not_false, cond_true]
   rw [if_neg]
   have : memS (l.drop j) = false := by
    rw [u18 hj]; simp only [memS, List.all_cons, hs, Bool.false_and]
   rcases h0 with rfl | ⟨hp, h, h1⟩
   ·rw [this]; simp
   ·rw [v8a l (j - 1) (by omega)]; simp only [show j - 1 + 1 = j by omega, this]; simp
  | true =>
   rw [hrec, if_pos hs]
   simp only [Bool.not_true, cond_false]
   rcases h0 with rfl | ⟨hp, h, h1⟩
   ·rw [uf (by omega : ¬ ((0 : Nat) : Int) > 0), cond_false, u10 (u17 (by omega) (by rw [u11]; omega))]
   ·have ep : u21 (strL l) ((j : Int) - 1) = l[j - 1] := by
     rw [u22 hb (by omega) (by omega), show ((j : Int) - 1).toNat = j - 1 by omega, List.getD_eq_getElem?_getD, List.getElem?_eq_getElem h]; rfl
    rw [ud (by omega : (j : Int) > 0), cond_true, u10 (u17 (by omega) (by rw [u11]; omega)), u10 (u17 (by omega) (by rw [u11]; omega)), ep]
    have := v8a l (j - 1) (by omega)
    simp only [show j - 1 + 1 = j by omega, h1, Bool.true_and] at this
    rw [this]
    by_cases hlt : l[j - 1] < l[j]
    ·rw [uf (by omega : ¬ l[j - 1] ≥ l[j]), cond_false, ud hlt, Bool.true_and, u10 (u17 (by omega) (by rw [u11]; omega))]
    ·rw [ud (by omega : l[j - 1] ≥ l[j]), cond_true, uf hlt, Bool.false_and, if_neg (by simp)]
theorem v4a (l : List Int) (hb : IsBytes l) (hl : l.length ≤ 1000000000000) : gq159 (strL l) = some (if memS l = true then (l, decide (0 < l.length)) else ([], false)) := by
 unfold gq159 gq159.F
 have := u94 l hb hl (fun out => some (out, decide ((List.length out : Int) > (0 : Int)))) (fun b l => some (l, b)) l.length fuel 0 (by omega) (by rw [u54]; omega) (.inl rfl)
 rw [List.take_zero, Int.natCast_zero] at this
 rw [this]
 simp only [Nat.zero_sub, List.drop_zero]
 split
 ·congr 2
  rw [Bool.eq_iff_iff, decide_eq_true_iff, decide_eq_true_iff]
  omega
 ·rfl
theorem memOK_S (l : List Int) : ubf l = (decide (0 < l.length) && memS l) := by
 unfold ubf memS
 rw [Bool.and_assoc]
theorem v38 (l : List Int) (hb : IsBytes l) (hl : l.length ≤ 1000000000000) : ∃ m, gq159 (strL l) = some (m, ubf l) := by
 rw [v4a l hb hl, memOK_S]
 cases memS l with
 | true => exact ⟨l, by simp⟩
 | false => exact ⟨[], by simp⟩
theorem exStr (s : ByteArray) : ∃ l, IsBytes l ∧ s = strL l := ⟨bytesL s, IsBytes.bytesL s, (u1e s).symm⟩
def u40 (n : Int) : Bool := decide (0 ≤ n) && decide (n ≤ 65535)
def ufa (s : ByteArray) : Bool := decide (1 ≤ s.size) && decide (s.size ≤ 24)
def v5c (k s q : Int) (key val : ByteArray) : Bool :=
 u40 s && (u40 q && (decide (val.size ≤ 60) && (if k = 1 ∨ k = 2 then ufa key else if k = 3 then ufa key && sEq val ByteArray.empty else if k = 4 ∨ k = 5 then sEq key ByteArray.empty && (sEq val ByteArray.empty && (q == 0)) else false)))
def cntB (l : List Int) : List Int := (l.length : Int) % 256 :: l
def cmdB (k s q : Int) (K V : List Int) : List Int := beL k 1 ++ beL s 2 ++ beL q 2 ++ cntB K ++ cntB V
theorem beL1 (n : Int) : beL n 1 = [n % 256] := rfl
theorem beL2 (n : Int) : beL n 2 = [n / 256 % 256, n % 256] := rfl
theorem beL4 (n : Int) : beL n 4 = [n / 16777216 % 256, n / 65536 % 256, n / 256 % 256, n % 256] := by
 show [n / 256 / 256 / 256 % 256, n / 256 / 256 % 256, n / 256 % 256, n % 256] = _
 rw [show n / 256 / 256 / 256 = n / 16777216 by omega, show n / 256 / 256 = n / 65536 by omega]
theorem ub2 {l : List Int} (h : IsBytes l) : IsBytes (cntB l) := IsBytes.cons (by omega) (by omega) h
theorem w1b {k s q : Int} {K V : List Int} (hK : IsBytes K) (hV : IsBytes V) : IsBytes (cmdB k s q K V) :=
 ((((u25 _ _).append (u25 _ _)).append (u25 _ _)).append (ub2 hK)).append (ub2 hV)
theorem vbd (k s q : Int) (K V : List Int) : (cmdB k s q K V).length = 7 + K.length + V.length := by
 simp [cmdB, cntB, u14]
 omega
theorem v9e (x : Int) : gq137 x 4 = some (strL (beL x 4)) := ud5 x 4 (by omega)
theorem two_eq (n : Int) (h0 : 0 ≤ n) (h1 : n ≤ 65535) : gq150 n = some (beL n 2) := by
 unfold gq150 gq150.F
 rw [u10 (u61 (by decide)), u6e h0, wr (by omega) (by omega), wr8m, wr8m, beL2]
theorem v36 (n : Int) : gq133 n = some (beL n 4) := by
 unfold gq133 gq133.F
 rw [u10 (ud1 (by decide)), u10 (ud1 (by decide)), u10 (ud1 (by decide)), shr24, shr16, shr8, wr8m, wr8m, wr8m, wr8m, beL4]
theorem w10 (k s q : Int) (K V : List Int) (hK : IsBytes K) (hV : IsBytes V) (hKl : K.length ≤ 1000000) (hVl : V.length ≤ 1000000) (hs : u40 s = true) (hq : u40 q = true) : gq162 k s q (strL K) (strL V) = some (cmdB k s q K V) := by
 simp only [u40, Bool.and_eq_true, decide_eq_true_iff] at hs hq
 unfold gq162 gq162.F
 simp only [two_eq s hs.1 hs.2, two_eq q hq.1 hq.2, bs, u1d hK, u1d hV, u11, wr8m]
 rw [u10 (u28 (by simp [u14])), u10 (u28 (by simp [u14])), u10 (u28 (by simp [u14])), u10 (u28 (by simp [u14]; omega)), u10 (u28 (by simp [u14]; omega)), u10 (u28 (by simp [u14]; omega))]
 simp [cmdB, cntB, beL1]
theorem rnum1 (a : Int) (l : List Int) (hb : IsBytes (a :: l)) : gq182 (strL (a :: l)) false 1 = some (a, strL l, false) := by
 have := v27 (a :: l) hb 1 (by omega) (by simp)
 simpa [beN] using this
theorem rnum4 (a b c d : Int) (l : List Int) (hb : IsBytes (a :: b :: c :: d :: l)) : gq182 (strL (a :: b :: c :: d :: l)) false 4 = some (((a * 256 + b) * 256 + c) * 256 + d, strL l, false) := by
 have := v27 (a :: b :: c :: d :: l) hb 4 (by omega) (by simp)
 simpa [beN] using this
theorem IsBytes.tail {a : Int} {l : List Int} (h : IsBytes (a :: l)) : IsBytes l := fun y hy => h y (List.mem_cons_of_mem _ hy)
def pCnt : List Int → Option (List Int × List Int)
 | [] => none
 | a :: l => if a ≤ l.length then some (l.take a.toNat, l.drop a.toNat) else none
theorem rcnt_eq (l : List Int) (hb : IsBytes l) : ∃ r, gq183 (strL l) false = some (match pCnt l with | some x => (strL x.1, strL x.2, false) | none => (ByteArray.empty, r, true)) := by
 cases l with
 | nil => exact ⟨_, rcnt_nil⟩
 | cons a l =>
  by_cases h : a ≤ l.length
  ·exact ⟨ByteArray.empty, by rw [rcnt_ok a l hb h, pCnt, if_pos h]⟩
  ·exact ⟨strL l, by rw [rcnt_no a l hb (by omega), pCnt, if_neg h]⟩
theorem scnt_eq (l : List Int) (hb : IsBytes l) (hl : l.length ≤ 1000000) (p : Nat) (hp : p ≤ l.length) : ∃ r n, gq98 l p false 1 = some (n, r) ∧ r.1 = l ∧
  match pCnt (l.drop p) with
  | some x => r.2.2 = false ∧ gq184 l r.2.1 false n = some (strL x.1, l, ((l.length - x.2.length : Nat) : Int), false) ∧ x.2 = l.drop (l.length - x.2.length) ∧ x.2.length ≤ l.length
  | none => ∃ q, gq184 l r.2.1 r.2.2 n = some (ByteArray.empty, l, q, true) := by
 have h1 := v4f l hb hl 1 (by omega) p hp
 rw [show ((1 : Nat) : Int) = 1 from rfl] at h1
 by_cases hlt : p < l.length
 ·rw [if_pos (by omega)] at h1
  have hg := hb.get hlt
  have e1 : beN 0 ((l.drop p).take 1) = l[p] := by rw [u18 hlt, List.take_succ_cons, List.take_zero, beN, beN]; omega
  rw [e1] at h1
  refine ⟨_, _, h1, rfl, ?_⟩
  have ht := stext_eq l hl (p + 1) (by omega) l[p] (by omega) (by omega)
  rw [u18 hlt, pCnt]
  by_cases h2 : l[p] ≤ ((l.drop (p + 1)).length : Int)
  ·rw [if_pos h2]
   have h3 := h2
   rw [List.length_drop] at h3
   rw [if_pos (by omega)] at ht
   refine ⟨rfl, ?_, ?_, ?_⟩
   ·show gq184 l ((p + 1 : Nat) : Int) false l[p] = _
    rw [ht]
    simp only [List.length_drop]
    congr 4
    omega
   ·show List.drop l[p].toNat (List.drop (p + 1) l) = List.drop _ l
    rw [List.drop_drop]
    congr 1
    simp only [List.length_drop]
    omega
   ·simp only [List.length_drop]; omega
  ·rw [if_neg h2]
   rw [List.length_drop] at h2
   rw [if_neg (by omega)] at ht
   exact ⟨_, ht⟩
 ·rw [if_neg (by omega)] at h1
  refine ⟨_, _, h1, rfl, ?_⟩
  rw [List.drop_of_length_le (by omega), pCnt]
  exact ⟨_, ude l _ _⟩
theorem and_f {p q : Prop} [Decidable p] [Decidable q] (h : ¬ (p ∧ q)) : (decide p && decide q) = false := by
 rw [← Bool.not_eq_true, Bool.and_eq_true, decide_eq_true_iff, decide_eq_true_iff]
 exact h
theorem and_t {p q : Prop} [Decidable p] [Decidable q] (h : p ∧ q) : (decide p && decide q) = true := by
 rw [Bool.and_eq_true, decide_eq_true_iff, decide_eq_true_iff]
 exact h
def letB (c : Int) : Bool := ((decide (97 ≤ c) && decide (c ≤ 122)) || (decide (65 ≤ c) && decide (c ≤ 90))) || c == 95
def digB (c : Int) : Bool := decide (48 ≤ c) && decide (c ≤ 57)
def okN : Bool → List Int → Bool
 | _, [] => true
 | true, c :: r => letB c && okN false r
 | false, c :: r => (letB c || digB c) && okN false r
def vb4 (l : List Int) : Bool := (decide (1 ≤ l.length) && decide (l.length ≤ 40)) && okN true l
theorem name_j1 {R : Type} (kkn : ByteArray → Int → Int → Bool → Int → Int → Option R) (t : ByteArray) (i b i1 i2 : Int) : gq114.j1 kkn t i b i1 i2 = kkn t i b (letB b) i1 i2 := by
 unfold gq114.j1 letB
 by_cases h1 : (97 : Int) ≤ b <;> by_cases h2 : b ≤ 122 <;> by_cases h3 : (65 : Int) ≤ b <;> by_cases h4 : b ≤ 90 <;> simp [h1, h2, h3, h4]
theorem w81 {R : Type} (kke : ByteArray → Option R) (kkr : Bool → Option R) (l : List Int) (hb : IsBytes l) (hl : l.length ≤ 1000000000000000) : ∀ (m fu j : Nat), j + m = l.length → m < fu →
  gq114.l2 kke kkr fu (strL l) (l.length : Int) (j : Int) = if okN (decide (j = 0)) (l.drop j) = true then kke (strL l) else kkr false
 | 0, fu + 1, j, e, _ => by
  simp only [gq114.l2]
  rw [uf (by omega), cf, List.drop_of_length_le (by omega)]
  simp [okN]
 | m + 1, fu + 1, j, e, hf => by
  have hj : j < l.length := by omega
  simp only [gq114.l2]
  rw [ud (by omega), ct, u10 (u17 (by omega) (by rw [u11]; omega)), u22 hb (by omega) (by omega), Int.toNat_natCast, List.getD_eq_getElem?_getD, List.getElem?_eq_getElem hj, Option.getD_some, name_j1, wr (by omega) (by omega), show ((j : Int) + 1) = ((j + 1 : Nat) : Int) by omega,
   w81 kke kkr l hb hl m fu (j + 1) (by omega) (by omega), u18 hj, uf (show ¬ j + 1 = 0 by omega)]
  have hle : ∀ x y : Int, decide (x < y) = !decide (y ≤ x) := fun x y => by
   by_cases h : x < y
   ·rw [ud h, uf (by omega)]; rfl
   ·rw [uf h, ud (by omega)]; rfl
  have hgt : ∀ x y : Int, decide (x > y) = !decide (x ≤ y) := fun x y => hle y x
  rw [hle, hgt]
  by_cases h0 : j = 0
  ·subst h0
   rw [ud rfl, okN]
   cases h1 : letB l[0] <;> cases h2 : okN false (l.drop (0 + 1)) <;> rfl
  ·rw [uf h0, okN, show ((j : Int) == 0) = false by simp; omega]
   unfold digB
   cases letB l[j] <;> cases okN false (l.drop (j + 1)) <;> cases decide (48 ≤ l[j]) <;> cases decide (l[j] ≤ 57) <;> rfl
theorem name_i (l : List Int) (hb : IsBytes l) (hl : l.length ≤ 1000000000000000) : gq114 (strL l) = some (vb4 l) := by
 unfold gq114 gq114.F
 have := w81 (fun t_1 => (gq67 (ByteArray.size t_1 : Int) (1 : Int) (40 : Int)).bind fun r => some r) (fun b => some b) l hb hl l.length fuel 0 (by omega) (u1c (by omega))
 rw [Int.natCast_zero, List.drop_zero, ud rfl] at this
 rw [u11, this, vb4]
 cases okN true l with
 | false => simp
 | true =>
  rw [if_pos rfl, u2b, bs, u11, Bool.and_true]
  congr 2
  ·rw [decide_eq_decide]; omega
  ·rw [decide_eq_decide]; omega
theorem vea (c : Int) : gq177 c = some (letB c) := by
 unfold gq177 gq177.F letB
 by_cases h1 : (97 : Int) ≤ c <;> by_cases h2 : c ≤ 122 <;> by_cases h3 : (65 : Int) ≤ c <;> by_cases h4 : c ≤ 90 <;> simp [h1, h2, h3, h4]
theorem v95 (c : Int) : gq158 c = some (digB c) := by
 unfold gq158 gq158.F digB
 by_cases h1 : (48 : Int) ≤ c <;> simp [h1]
theorem w7d {R : Type} (kke : Option R) (kkr : Bool → Option R) (l : List Int) (hb : IsBytes l) (hl : l.length ≤ 1000000000000000) : ∀ (m fu j : Nat), j + m = l.length → m < fu →
  gq156.l1 kke kkr fu (strL l) (j : Int) = if okN false (l.drop j) = true then kke else kkr false
 | 0, fu + 1, j, e, _ => by
  simp only [gq156.l1]
  rw [u11, uf (by omega), cf, List.drop_of_length_le (by omega)]
  simp [okN]
 | m + 1, fu + 1, j, e, hf => by
  have hj : j < l.length := by omega
  simp only [gq156.l1]
  rw [u11, ud (by omega), ct, u10 (u17 (by omega) (by omega)), u22 hb (by omega) (by omega), Int.toNat_natCast, List.getD_eq_getElem?_getD, List.getElem?_eq_getElem hj, Option.getD_some, vea, bs, wr (by omega) (by omega), show ((j : Int) + 1) = ((j + 1 : Nat) : Int) by omega,
   w7d kke kkr l hb hl m fu (j + 1) (by omega) (by omega), u18 hj, u10 (u17 (by omega) (by omega)), v95, bs, okN]
  cases letB l[j] <;> cases digB l[j] <;> cases okN false (l.drop (j + 1)) <;> rfl
theorem name_s (l : List Int) (hb : IsBytes l) (hl : l.length ≤ 1000000000000000) : gq120 (strL l) = some (vb4 l) := by
 unfold gq120 gq120.F gq156 gq156.F vb4
 rw [u11]
 by_cases h0 : l.length < 1
 ·rw [ud (by omega), ct, uf (show ¬ 1 ≤ l.length by omega)]
  rfl
 ·rw [uf (by omega), cf, ud (show 1 ≤ l.length by omega)]
  by_cases h1 : l.length > 40
  ·rw [ud (by omega), ct, uf (show ¬ l.length ≤ 40 by omega)]
   rfl
  ·have hj : 0 < l.length := by omega
   rw [uf (by omega), cf, ud (show l.length ≤ 40 by omega), u10 (u17 (by omega) (by omega)), u22 hb (by omega) (by omega), show (0 : Int).toNat = 0 from rfl, List.getD_eq_getElem?_getD, List.getElem?_eq_getElem hj, Option.getD_some, vea, bs,
    show (1 : Int) = ((1 : Nat) : Int) from rfl, w7d _ _ l hb hl (l.length - 1) fuel 1 (by omega) (u1c (by omega))]
   obtain ⟨c, r, rfl⟩ : ∃ c r, l = c :: r := by
    cases l with
    | nil => simp at hj
    | cons c r => exact ⟨c, r, rfl⟩
   simp only [List.getElem_cons_zero, List.drop_succ_cons, List.drop_zero, okN]
   cases letB c <;> cases okN false r <;> rfl
def u68 (s : ByteArray) : Bool := vb4 (bytesL s)
theorem vab (s : ByteArray) (h : s.size ≤ 1000000000000000) : gq114 s = some (u68 s) := by
 have := name_i (bytesL s) (IsBytes.bytesL s) (by rw [u13]; exact h)
 rwa [u1e] at this
theorem v90 (s : ByteArray) (h : s.size ≤ 1000000000000000) : gq120 s = some (u68 s) := by
 have := name_s (bytesL s) (IsBytes.bytesL s) (by rw [u13]; exact h)
 rwa [u1e] at this
theorem u51 {s : ByteArray} (h : u68 s = true) : 1 ≤ s.size ∧ s.size ≤ 40 := by
 unfold u68 vb4 at h
 rw [Bool.and_eq_true, Bool.and_eq_true, decide_eq_true_iff, decide_eq_true_iff, u13] at h
 exact h.1
theorem ue6 : ∀ (l : List UInt8), Op.bytesLess l l = false
 | [] => rfl
 | a :: l => by
  simp only [Op.bytesLess, ue6 l, Bool.and_false, Bool.or_false]
  rw [decide_eq_false_iff_not]
  exact Nat.lt_irrefl _
theorem v15 : ∀ {a b c : List UInt8}, Op.bytesLess a b = true → Op.bytesLess b c = true → Op.bytesLess a c = true
 | _, [], _, h, _ => by cases ‹List UInt8› <;> simp [Op.bytesLess] at h
 | _, _ :: _, [], _, k => by simp [Op.bytesLess] at k
 | [], _ :: _, _ :: _, _, _ => rfl
 | x :: a, y :: b, z :: c, h, k => by
  simp only [Op.bytesLess, Bool.or_eq_true, Bool.and_eq_true, decide_eq_true_iff, beq_iff_eq] at h k ⊢
  rcases h with h | ⟨rfl, h⟩ <;> rcases k with k | ⟨rfl, k⟩
  ·exact .inl (Nat.lt_trans h k)
  ·exact .inl h
  ·exact .inl k
  ·exact .inr ⟨rfl, v15 h k⟩
theorem uf4 : ∀ {a b : List UInt8}, Op.bytesLess a b = false → Op.bytesLess b a = false → a = b
 | [], [], _, _ => rfl
 | [], _ :: _, h, _ => by simp [Op.bytesLess] at h
 | _ :: _, [], _, k => by simp [Op.bytesLess] at k
 | x :: a, y :: b, h, k => by
  simp only [Op.bytesLess, Bool.or_eq_false_iff, Bool.and_eq_false_iff, decide_eq_false_iff_not, beq_eq_false_iff_ne] at h k
  have e : x = y := by
   apply UInt8.toNat_inj.1
   have h1 : ¬ x.toNat < y.toNat := h.1
   have h2 : ¬ y.toNat < x.toNat := k.1
   omega
  subst e
  have h3 := h.2.resolve_left (fun n => n rfl)
  have k3 := k.2.resolve_left (fun n => n rfl)
  rw [uf4 h3 k3]
theorem uaa (a : ByteArray) : sLt a a = false := ue6 _
theorem u80 {a b c : ByteArray} (h : sLt a b = true) (k : sLt b c = true) : sLt a c = true := v15 h k
theorem vff {a b : ByteArray} (h : a.toList = b.toList) : a = b := by
 have : sEq a b = true := by
  unfold sEq
  rw [h]
  exact beq_self_eq_true _
 exact sEq_iff.1 this
theorem w35 {a b : ByteArray} (h : sLt a b = false) (k : sLt b a = false) : a = b := vff (uf4 h k)
theorem ufc {a b : ByteArray} (h : sLt a b = true) : a ≠ b := by
 rintro rfl
 rw [uaa] at h
 cases h
def totF : List (El u4) → Nat
 | [] => 0
 | f :: r => ByteArray.size f.2.1 + totF r
theorem v25 : ∀ {l : List (El u4)} {f : El u4}, f ∈ l → ByteArray.size f.2.1 ≤ totF l
 | f :: r, g, h => by
  simp only [totF]
  rcases List.mem_cons.1 h with rfl | h
  ·omega
  ·have := v25 h; omega
theorem used_i {R : Type} (kke : Int → Option R) (l : List (El u4)) (hl : l.length ≤ 1000000000) (ht : totF l ≤ 1000000000000000000) : ∀ (m fu j acc : Nat), j + m = l.length → m < fu → acc + totF (l.drop j) ≤ 1000000000000000000 →
  gq113.l1 kke fu (acc : Int) l (l.length : Int) (j : Int) = kke ((acc + totF (l.drop j) : Nat) : Int)
 | 0, fu + 1, j, acc, e, _, _ => by
  simp only [gq113.l1]
  rw [uf (by omega), cf, List.drop_of_length_le (by omega)]
  rfl
 | m + 1, fu + 1, j, acc, e, hf, ha => by
  have hj : j < l.length := by omega
  rw [u18 hj] at ha ⊢
  simp only [totF] at ha
  simp only [gq113.l1, totF]
  rw [ud (by omega), ct, u10 (u17 (by omega) (by omega)), Int.toNat_natCast, u1b (k := u4) hj, wr (x := (acc : Int) + _) (by omega) (by omega), wr (by omega) (by omega), show ((j : Int) + 1) = ((j + 1 : Nat) : Int) by omega,
   show ((acc : Int) + (ByteArray.size l[j].2.1 : Int)) = ((acc + ByteArray.size l[j].2.1 : Nat) : Int) by omega, used_i kke l hl ht m fu (j + 1) _ (by omega) (by omega) (by omega), Nat.add_assoc]
theorem used_s {R : Type} (kke : Int → Option R) (room : Int) (l : List (El u4)) (hl : l.length ≤ 1000000000) (ht : totF l ≤ 1000000000000000000) : ∀ (m fu j acc : Nat), j + m = l.length → m < fu → acc + totF (l.drop j) ≤ 1000000000000000000 →
  gq121.l1 kke fu (acc : Int) (j : Int) room l = kke ((acc + totF (l.drop j) : Nat) : Int)
 | 0, fu + 1, j, acc, e, _, _ => by
  simp only [gq121.l1]
  rw [uf (by omega), cf, List.drop_of_length_le (by omega)]
  rfl
 | m + 1, fu + 1, j, acc, e, hf, ha => by
  have hj : j < l.length := by omega
  rw [u18 hj] at ha ⊢
  simp only [totF] at ha
  simp only [gq121.l1, totF]
  rw [ud (by omega), ct, u10 (u17 (by omega) (by omega)), Int.toNat_natCast, u1b (k := u4) hj, wr (x := (acc : Int) + _) (by omega) (by omega), wr (by omega) (by omega), show ((j : Int) + 1) = ((j + 1 : Nat) : Int) by omega,
   show ((acc : Int) + (ByteArray.size l[j].2.1 : Int)) = ((acc + ByteArray.size l[j].2.1 : Nat) : Int) by omega, used_s kke room l hl ht m fu (j + 1) _ (by omega) (by omega) (by omega), Nat.add_assoc]
theorem vaa (room : Int) (l : List (El u4)) (hl : l.length ≤ 1000000000) (ht : totF l ≤ 1000000000000000000) : gq113 room l = some (totF l : Int) := by
 unfold gq113 gq113.F
 have := used_i (fun sum => some sum) l hl ht l.length fuel 0 0 (by omega) (u1c (by omega)) (by simp; exact ht)
 rw [Int.natCast_zero, List.drop_zero, Nat.zero_add] at this
 exact this
theorem v99 (room : Int) (l : List (El u4)) (hl : l.length ≤ 1000000000) (ht : totF l ≤ 1000000000000000000) : gq121 room l = some (totF l : Int) := by
 unfold gq121 gq121.F
 have := used_s (fun sum => some sum) room l hl ht l.length fuel 0 0 (by omega) (u1c (by omega)) (by simp; exact ht)
 rw [Int.natCast_zero, List.drop_zero, Nat.zero_add] at this
 exact this
def fOK (l : List (El u4)) (i : Nat) : Bool := u68 (rdE u4 l i).1 && ((decide (i = 0) || sLt (rdE u4 l (i - 1)).1 (rdE u4 l i).1) && (decide ((0 : Int) ≤ (rdE u4 l i).2.2) && decide ((rdE u4 l i).2.2 ≤ (ByteArray.size (rdE u4 l i).2.1 : Int))))
def u4b (l : List (El u4)) : Nat → Nat → Bool
 | 0, _ => true
 | m + 1, j => fOK l j && u4b l m (j + 1)
def NamesFit (l : List (El u4)) : Prop := ∀ f ∈ l, ByteArray.size f.1 ≤ 1000000000000000
theorem NamesFit.rd {l : List (El u4)} (h : NamesFit l) {j : Nat} (hj : j < l.length) : ByteArray.size (rdE u4 l j).1 ≤ 1000000000000000 := by
 rw [u1b (k := u4) hj]
 exact h _ (List.getElem_mem hj)
theorem w59 {R : Type} (kke : Option R) (kkr : Bool → Option R) (room : Int) (l : List (El u4)) (hl : l.length ≤ 1000000000) (hn : NamesFit l) : ∀ (m fu j : Nat), j + m = l.length → m < fu →
  gq65.l1 kke kkr fu l (l.length : Int) (j : Int) room l = cond (u4b l m j) kke (kkr false)
 | 0, fu + 1, j, e, _ => by
  simp only [gq65.l1]
  rw [uf (by omega), cf]
  rfl
 | m + 1, fu + 1, j, e, hf => by
  have hj : j < l.length := by omega
  simp only [gq65.l1, u4b, fOK]
  rw [ud (by omega), ct, u10 (u17 (by omega) (by omega)), Int.toNat_natCast, vab _ (hn.rd hj), bs, u2b, bs, wr (x := (j : Int) + 1) (by omega) (by omega), show ((j : Int) + 1) = ((j + 1 : Nat) : Int) by omega, w59 kke kkr room l hl hn m fu (j + 1) (by omega) (by omega)]
  by_cases h0 : j = 0
  ·subst h0
   rw [uf (by omega), cf, ud rfl, Bool.true_or]
   cases u68 (rdE u4 l 0).1 <;> cases (decide ((0 : Int) ≤ (rdE u4 l 0).2.2) && decide ((rdE u4 l 0).2.2 ≤ (ByteArray.size (rdE u4 l 0).2.1 : Int))) <;> cases u4b l m (0 + 1) <;> rfl
  ·rw [ud (show (j : Int) > 0 by omega), ct, uf h0, Bool.false_or, wr (x := (j : Int) - 1) (by omega) (by omega), u10 (u17 (by omega) (by omega)), show ((j : Int) - 1).toNat = j - 1 by omega]
   cases u68 (rdE u4 l j).1 <;> cases sLt (rdE u4 l (j - 1)).1 (rdE u4 l j).1 <;> cases (decide ((0 : Int) ≤ (rdE u4 l j).2.2) && decide ((rdE u4 l j).2.2 ≤ (ByteArray.size (rdE u4 l j).2.1 : Int))) <;> cases u4b l m (j + 1) <;> rfl
def ube (l : List (El u4)) : Nat → Nat → Bool
 | 0, _ => true
 | m + 1, j => decide (ByteArray.size (rdE u4 l j).2.1 ≤ 3000) && ube l m (j + 1)
theorem w4a {R : Type} (kke : Int → List (El u4) → Option R) (kkr : Bool → Option R) (room : Int) (l : List (El u4)) (hl : l.length ≤ 1000000000) (hn : NamesFit l) : ∀ (m fu j : Nat), j + m = l.length → m < fu →
  gq73.l1 kke kkr fu (j : Int) room l = cond (u4b l m j && ube l m j) (kke room l) (kkr false)
 | 0, fu + 1, j, e, _ => by
  simp only [gq73.l1]
  rw [uf (by omega), cf]
  rfl
 | m + 1, fu + 1, j, e, hf => by
  have hj : j < l.length := by omega
  simp only [gq73.l1, u4b, fOK, ube]
  rw [ud (by omega), ct, u10 (u17 (by omega) (by omega)), Int.toNat_natCast, v90 _ (hn.rd hj), bs, u58, bs, wr (x := (j : Int) + 1) (by omega) (by omega), show ((j : Int) + 1) = ((j + 1 : Nat) : Int) by omega, w4a kke kkr room l hl hn m fu (j + 1) (by omega) (by omega)]
  rw [show decide ((ByteArray.size (rdE u4 l j).2.1 : Int) > 3000) = !decide (ByteArray.size (rdE u4 l j).2.1 ≤ 3000) by
   rw [Bool.eq_iff_iff, Bool.not_eq_true', decide_eq_true_iff, decide_eq_false_iff_not]; omega]
  by_cases h0 : j = 0
  ·subst h0
   rw [uf (show ¬ ((0 : Nat) : Int) > 0 by omega), cf, ud rfl, Bool.true_or]
   cases u68 (rdE u4 l 0).1 <;> cases (decide ((0 : Int) ≤ (rdE u4 l 0).2.2) && decide ((rdE u4 l 0).2.2 ≤ (ByteArray.size (rdE u4 l 0).2.1 : Int))) <;> cases u4b l m (0 + 1) <;> cases decide (ByteArray.size (rdE u4 l 0).2.1 ≤ 3000) <;> cases ube l m (0 + 1) <;> rfl
  ·rw [ud (show (j : Int) > 0 by omega), ct, uf h0, Bool.false_or, wr (x := (j : Int) - 1) (by omega) (by omega), u10 (u17 (by omega) (by omega)), show ((j : Int) - 1).toNat = j - 1 by omega]
   cases u68 (rdE u4 l j).1 <;> cases sLt (rdE u4 l (j - 1)).1 (rdE u4 l j).1 <;> cases (decide ((0 : Int) ≤ (rdE u4 l j).2.2) && decide ((rdE u4 l j).2.2 ≤ (ByteArray.size (rdE u4 l j).2.1 : Int))) <;> cases u4b l m (j + 1) <;> cases decide (ByteArray.size (rdE u4 l j).2.1 ≤ 3000) <;> cases ube l m (j + 1) <;> rfl
theorem v71 (l : List (El u4)) (h : ∀ f ∈ l, ByteArray.size f.2.1 ≤ 3000) : ∀ (m j : Nat), j + m ≤ l.length → ube l m j = true
 | 0, _, _ => rfl
 | m + 1, j, e => by
  have hj : j < l.length := by omega
  simp only [ube]
  rw [v71 l h m (j + 1) (by omega), Bool.and_true, u1b (k := u4) hj]
  exact ud (h _ (List.getElem_mem hj))
def dOK (room : Int) (l : List (El u4)) : Bool := (decide (0 ≤ room) && decide (room ≤ 3000)) && (decide (l.length ≤ 8) && (decide ((totF l : Int) ≤ room) && u4b l l.length 0))
def DFit (l : List (El u4)) : Prop := NamesFit l ∧ ∀ f ∈ l, ByteArray.size f.2.1 ≤ 1000000000000000
theorem v31 : ∀ {l : List (El u4)}, (∀ f ∈ l, ByteArray.size f.2.1 ≤ 1000000000000000) → totF l ≤ l.length * 1000000000000000
 | [], _ => Nat.le_refl _
 | f :: r, h => by
  have h1 := h f (by simp)
  have h2 := v31 (l := r) fun g hg => h g (by simp [hg])
  simp only [totF, List.length_cons]
  omega
theorem disk_i (room : Int) (l : List (El u4)) (hl : l.length ≤ 1000000000) (h : DFit l) : gq65 room l = some (dOK room l) := by
 unfold gq65 gq65.F dOK
 rw [u2b, bs]
 by_cases h0 : 0 ≤ room ∧ room ≤ 3000
 ·rw [and_t h0, Bool.not_true, cf, Bool.true_and]
  by_cases h1 : l.length ≤ 8
  ·have ht := v31 h.2
   rw [uf (by omega), cf, ud h1, Bool.true_and, vaa room l hl (by omega), bs]
   by_cases h2 : (totF l : Int) ≤ room
   ·rw [uf (by omega), cf, ud h2, Bool.true_and]
    have := w59 (some true) (fun b => some b) room l hl h.1 l.length fuel 0 (by omega) (u1c (by omega))
    rw [Int.natCast_zero] at this
    rw [this]
    cases u4b l l.length 0 <;> rfl
   ·rw [ud (by omega), ct, uf h2, Bool.false_and]
  ·rw [ud (by omega), ct, uf h1, Bool.false_and]
 ·rw [and_f h0, Bool.not_false, ct, Bool.false_and]
theorem w32 (room : Int) (l : List (El u4)) (hl : l.length ≤ 1000000000) (h : DFit l) : gq73 room l = some (dOK room l) := by
 unfold gq73 gq73.F dOK
 rw [u58, bs]
 by_cases h0 : 0 ≤ room ∧ room ≤ 3000
 ·rw [and_t h0, Bool.not_true, cf, Bool.true_and]
  by_cases h1 : l.length ≤ 8
  ·have ht := v31 h.2
   have := w4a (fun d d1 => (gq121 d d1).bind fun r1 => some (decide (r1 ≤ d))) (fun b => some b) room l hl h.1 l.length fuel 0 (by omega) (u1c (by omega))
   rw [Int.natCast_zero] at this
   rw [uf (by omega), cf, ud h1, Bool.true_and, this, v99 room l hl (by omega), bs]
   by_cases h2 : (totF l : Int) ≤ room
   ·rw [ud h2, Bool.true_and, v71 l (fun f hf => by have := v25 hf; omega) _ _ (by omega), Bool.and_true]
    cases u4b l l.length 0 <;> rfl
   ·rw [uf h2, Bool.false_and]
    cases (u4b l l.length 0 && ube l l.length 0) <;> rfl
  ·rw [ud (by omega), ct, uf h1, Bool.false_and]
 ·rw [and_f h0, Bool.not_false, ct, Bool.false_and]
theorem v7a (l : List (El u4)) : ∀ (m j : Nat), u4b l m j = true → ∀ i, j ≤ i → i < j + m → fOK l i = true
 | 0, j, _, i, h1, h2 => by omega
 | m + 1, j, h, i, h1, h2 => by
  simp only [u4b, Bool.and_eq_true] at h
  by_cases e : i = j
  ·subst e; exact h.1
  ·exact v7a l m (j + 1) h.2 i (by omega) (by omega)
structure DK (room : Int) (l : List (El u4)) : Prop where
 rm : 0 ≤ room ∧ room ≤ 3000
 len : l.length ≤ 8
 tot : (totF l : Int) ≤ room
 name : ∀ i (h : i < l.length), u68 l[i].1 = true
 rise : ∀ i (h : i + 1 < l.length), sLt (l[i]'(by omega)).1 l[i + 1].1 = true
 sure : ∀ i (h : i < l.length), (0 : Int) ≤ l[i].2.2 ∧ (l[i].2.2 : Int) ≤ (ByteArray.size l[i].2.1 : Int)
theorem w74 {room : Int} {l : List (El u4)} (h : dOK room l = true) : DK room l := by
 unfold dOK at h
 rw [Bool.and_eq_true, Bool.and_eq_true, Bool.and_eq_true, Bool.and_eq_true, decide_eq_true_iff, decide_eq_true_iff, decide_eq_true_iff, decide_eq_true_iff] at h
 obtain ⟨h0, h1, h2, h3⟩ := h
 have at_ : ∀ i (hi : i < l.length), fOK l i = true := fun i hi => v7a l _ 0 h3 i (by omega) (by omega)
 refine ⟨h0, h1, h2, fun i hi => ?_, fun i hi => ?_, fun i hi => ?_⟩
 ·have := at_ i hi
  unfold fOK at this
  rw [Bool.and_eq_true, u1b (k := u4) hi] at this
  exact this.1
 ·have := at_ (i + 1) hi
  unfold fOK at this
  rw [Bool.and_eq_true, Bool.and_eq_true, uf (show ¬ i + 1 = 0 by omega), Bool.false_or, Nat.add_sub_cancel, u1b (k := u4) hi, u1b (k := u4) (show i < l.length by omega)] at this
  exact this.2.1
 ·have := at_ i hi
  unfold fOK at this
  rw [Bool.and_eq_true, Bool.and_eq_true, Bool.and_eq_true, decide_eq_true_iff, decide_eq_true_iff, u1b (k := u4) hi] at this
  exact this.2.2
theorem DK.lt {room : Int} {l : List (El u4)} (h : DK room l) : ∀ (d i : Nat) (hi : i + d + 1 < l.length), sLt (l[i]'(by omega)).1 (l[i + d + 1]'hi).1 = true
 | 0, i, hi => h.rise i hi
 | d + 1, i, hi => u80 (DK.lt h d i (by omega)) (h.rise (i + d + 1) (by omega))
theorem DK.inj {room : Int} {l : List (El u4)} (h : DK room l) {i j : Nat} (hi : i < l.length) (hj : j < l.length) (e : l[i].1 = l[j].1) : i = j := by
 rcases Nat.lt_trichotomy i j with hlt | he | hlt
 ·obtain ⟨d, rfl⟩ : ∃ d, j = i + d + 1 := ⟨j - i - 1, by omega⟩
  exact absurd e (ufc (h.lt d i hj))
 ·exact he
 ·obtain ⟨d, rfl⟩ : ∃ d, i = j + d + 1 := ⟨i - j - 1, by omega⟩
  exact absurd e.symm (ufc (h.lt d j hi))
theorem DK.data {room : Int} {l : List (El u4)} (h : DK room l) {f : El u4} (hf : f ∈ l) : ByteArray.size f.2.1 ≤ 3000 := by
 have := v25 hf
 have := h.tot
 have := h.rm
 omega
theorem ub8 {l K r : List Int} (h : IsBytes l) (hp : pCnt l = some (K, r)) : IsBytes K ∧ IsBytes r ∧ l = cntB K ++ r ∧ K.length < 256 := by
 cases l with
 | nil => simp [pCnt] at hp
 | cons a l =>
  simp only [pCnt] at hp
  split at hp
  ·rename_i hl
   have ha := h a List.mem_cons_self
   simp only [Option.some.injEq, Prod.mk.injEq] at hp
   obtain ⟨rfl, rfl⟩ := hp
   refine ⟨h.tail.take _, h.tail.drop _, ?_, by simp; omega⟩
   unfold cntB
   rw [List.length_take, List.cons_append, List.take_append_drop]
   congr 1
   omega
  ·simp at hp
theorem w61 {K r : List Int} (h : K.length < 256) : pCnt (cntB K ++ r) = some (K, r) := by
 unfold cntB
 rw [List.cons_append, pCnt, if_pos (by simp; omega)]
 have : ((K.length : Int) % 256).toNat = K.length := by omega
 rw [this, List.take_left, List.drop_left]
theorem v1f (l : List Int) (hb : IsBytes l) (hl : l.length ≤ 1000000) (m : Nat) (hm : m ≤ 7) (p : Nat) (h : p + m ≤ l.length) : gq98 l p false m = some (beN 0 ((l.drop p).take m), l, ((p + m : Nat) : Int), false) := by
 rw [v4f l hb hl m hm p (by omega), if_pos h]
theorem v2e (l : List Int) (hb : IsBytes l) (hl : l.length ≤ 1000000) (m : Nat) (hm : m ≤ 7) (p : Nat) (hp : p ≤ l.length) (h : l.length < p + m) : gq98 l p false m = some (0, l, (l.length : Int), true) := by
 rw [v4f l hb hl m hm p hp, if_neg (by omega)]
structure SrcOK (c : List Int) (a s : Int) (N : Int) : Prop where
 hb : IsBytes c
 hl : c.length ≤ 2097152
 a0 : 0 ≤ a
 aN : a ≤ N
 NN : N ≤ 4611686018427387904
 s0 : 0 ≤ s
 s1 : s < 2147483648
theorem SrcOK.mono {c : List Int} {a s N M : Int} (h : SrcOK c a s N) (h1 : N ≤ M) (h2 : M ≤ 4611686018427387904) : SrcOK c a s M := ⟨h.hb, h.hl, h.a0, by have := h.aN; omega, h2, h.s0, h.s1⟩
theorem vb7 {c : List Int} {a s N : Int} (h : SrcOK c a s N) (hN : N + 1 ≤ 4611686018427387904) : ∃ v a' s', gq161 c a s = some (v, c, a', s') ∧ (0 ≤ v ∧ v < 256) ∧ SrcOK c a' s' (N + 1) := by
 obtain ⟨hb, hl, a0, aN, _, s0, s1⟩ := h
 unfold gq161 gq161.F
 rw [wr (x := a + 1) (by omega) (by omega), wr (x := a + 1 - 1) (by omega) (by omega)]
 by_cases h1 : a + 1 ≤ c.length
 ·have hlt : a.toNat < c.length := by omega
  have hg := hb.get hlt
  have e : rdE (.int .u8) c (a + 1 - 1).toNat = c[a.toNat] := by
   rw [show (a + 1 - 1) = a by omega]; exact u1b (k := .int .u8) hlt
  rw [ud h1, cond_true, u10 (u17 (by omega) (by omega)), u10 (u61 (by decide)), u10 (u17 (by omega) (by omega)), e]
  rw [wr (x := c[a.toNat]) (by omega) (by omega), wr (x := s * 31) (by omega) (by omega), wr (x := s * 31 + c[a.toNat]) (by omega) (by omega), wr (x := s * 31 + c[a.toNat] + 7) (by omega) (by omega), u35 (by omega)]
  exact ⟨_, _, _, rfl, hg, hb, hl, by omega, by omega, by omega, by omega, by omega⟩
 ·rw [uf h1, cond_false]
  by_cases h2 : a + 1 > 3000
  ·rw [ud h2, cond_true]
   exact ⟨_, _, _, rfl, by decide, hb, hl, by omega, by omega, by omega, s0, s1⟩
  ·rw [uf h2, cond_false, u10 (u61 (by decide)), u10 (u61 (by decide)), u10 (u61 (by decide))]
   rw [wr (x := s * 1103515245) (by omega) (by omega), wr (x := s * 1103515245 + 12345) (by omega) (by omega), u35 (x := s * 1103515245 + 12345) (by omega), u6e (by omega), wr (x := (s * 1103515245 + 12345) % 2147483648 / 65536) (by omega) (by omega), u35 (by omega)]
   exact ⟨_, _, _, rfl, by omega, hb, hl, by omega, by omega, by omega, by omega, by omega⟩
theorem u3e {c : List Int} {a s N : Int} (h : SrcOK c a s N) (hN : N + 3 ≤ 4611686018427387904) (n : Int) (h1 : 1 < n) (h2 : n ≤ 16777216) : ∃ v a' s', gq140 c a s n = some (v, c, a', s') ∧ (0 ≤ v ∧ v < n) ∧ SrcOK c a' s' (N + 3) := by
 unfold gq140 gq140.F
 rw [uf (by omega : ¬ n ≤ 1), cond_false]
 obtain ⟨v, a1, s1, e1, hv, h3⟩ := vb7 h (by omega)
 by_cases h4 : n ≤ 256
 ·rw [ud h4, cond_true, e1, Option.bind_some, u10 (u61 (by omega)), u35 hv.1]
  exact ⟨_, _, _, rfl, ⟨Int.emod_nonneg _ (by omega), Int.emod_lt_of_pos _ (by omega)⟩, h3.mono (by omega) (by omega)⟩
 ·obtain ⟨v2, a2, s2, e2, hv2, h5⟩ := vb7 h3 (by omega)
  obtain ⟨v3, a3, s3, e3, hv3, h6⟩ := vb7 h5 (by omega)
  rw [uf h4, cond_false, e1, Option.bind_some]
  dsimp only
  rw [e2, Option.bind_some]
  dsimp only
  rw [e3, Option.bind_some]
  dsimp only
  rw [u10 (u61 (by omega)), wr (x := v * 65536) (by omega) (by omega), wr (x := v2 * 256) (by omega) (by omega), wr (x := v * 65536 + v2 * 256) (by omega) (by omega), wr (x := v * 65536 + v2 * 256 + v3) (by omega) (by omega), u35 (by omega)]
  exact ⟨_, _, _, rfl, ⟨Int.emod_nonneg _ (by omega), Int.emod_lt_of_pos _ (by omega)⟩, h6.mono (by omega) (by omega)⟩
theorem next_one {c : List Int} {a s : Int} (n : Int) (h1 : n ≤ 1) : gq140 c a s n = some (0, c, a, s) := by
 unfold gq140 gq140.F
 rw [ud h1, cond_true]
theorem w6f (c : List Int) (hb : IsBytes c) (hl : c.length ≤ 1048576) : ∃ s, gq63 c = some (c, 0, s) ∧ SrcOK c 0 s 0 := by
 unfold gq63 gq63.F
 rw [u10 (u61 (by decide)), u35 (by omega)]
 exact ⟨_, rfl, hb, by omega, by omega, by omega, by decide, by omega, by omega⟩
theorem va0 {c : List Int} {a s N : Int} (h : SrcOK c a s N) (hN : N + 3 ≤ 4611686018427387904) (l : List ByteArray) (h0 : 1 < l.length) (h1 : l.length ≤ 1000) : ∃ v a' s', gq112 c a s l = some (v, c, a', s') ∧ v ∈ l ∧ SrcOK c a' s' (N + 3) := by
 unfold gq112 gq112.F
 rw [show ((l.length : Int) == 0) = false from beq_eq_false_iff_ne.2 (by omega), cond_false]
 obtain ⟨v, a', s', e, hv, h2⟩ := u3e h hN l.length (by omega) (by omega)
 rw [e, Option.bind_some]
 dsimp only
 rw [u10 (u17 hv.1 hv.2), u1b (k := .str) (by omega)]
 exact ⟨_, _, _, rfl, List.getElem_mem _, h2⟩
theorem w60 {c : List Int} {a s N : Int} (h : SrcOK c a s N) (hN : N + 3 ≤ 4611686018427387904) (n : Int) (h1 : 1 < n) (h2 : n ≤ 16777216) : ∃ v a' s', gq181 c a s n = some (v, c, a', s') ∧ SrcOK c a' s' (N + 3) := by
 unfold gq181 gq181.F
 obtain ⟨v, a', s', e, hv, h3⟩ := u3e h hN n h1 h2
 rw [e, Option.bind_some]
 exact ⟨_, _, _, rfl, h3⟩
theorem isKey_of {v : ByteArray} (h : v ∈ [(⟨#[97]⟩ : ByteArray), (⟨#[98]⟩ : ByteArray), (⟨#[99]⟩ : ByteArray), (⟨#[97, 108, 112, 104, 97]⟩ : ByteArray), (⟨#[98, 101, 116, 97]⟩ : ByteArray)]) : ufa v = true := by
 simp only [List.mem_cons, List.not_mem_nil, or_false] at h
 rcases h with rfl | rfl | rfl | rfl | rfl <;> rfl
theorem val_of {v : ByteArray} (h : v ∈ [ByteArray.empty, (⟨#[49]⟩ : ByteArray), (⟨#[50]⟩ : ByteArray), (⟨#[120]⟩ : ByteArray), (⟨#[108, 111, 110, 103, 101, 114, 32, 118, 97, 108, 117, 101]⟩ : ByteArray)]) : v.size ≤ 60 := by
 simp only [List.mem_cons, List.not_mem_nil, or_false] at h
 rcases h with rfl | rfl | rfl | rfl | rfl <;> decide
theorem vf4 {c : List Int} {a s N : Int} (h : SrcOK c a s N) (hN : N + 24 ≤ 4611686018427387904) : ∃ k se q key val a' s', gq163 c a s = some (k, se, q, key, val, c, a', s') ∧ v5c k se q key val = true ∧ (0 ≤ k ∧ k < 256) ∧ SrcOK c a' s' (N + 24) := by
 unfold gq163 gq163.F
 obtain ⟨v1, a1, s1, e1, hv1, h1⟩ := u3e h (by omega) 5 (by decide) (by decide)
 obtain ⟨v2, a2, s2, e2, hv2, h2⟩ := u3e h1 (by omega) 3 (by decide) (by decide)
 obtain ⟨v3, a3, s3, e3, hv3, h3⟩ := u3e h2 (by omega) 5 (by decide) (by decide)
 have hk : ∃ key a4 s4, gq179 c a3 s3 = some (key, c, a4, s4) ∧ ufa key = true ∧ SrcOK c a4 s4 (N + 3 + 3 + 3 + 3) := by
  unfold gq179 gq179.F
  obtain ⟨v, a', s', e, hv, h'⟩ := va0 h3 (by omega) [(⟨#[97]⟩ : ByteArray), (⟨#[98]⟩ : ByteArray), (⟨#[99]⟩ : ByteArray), (⟨#[97, 108, 112, 104, 97]⟩ : ByteArray), (⟨#[98, 101, 116, 97]⟩ : ByteArray)] (by decide) (by decide)
  rw [e, Option.bind_some]
  exact ⟨_, _, _, rfl, isKey_of hv, h'⟩
 obtain ⟨key, a4, s4, e4, hkey, h4⟩ := hk
 have hd : ∃ val a5 s5, gq180 c a4 s4 = some (val, c, a5, s5) ∧ val.size ≤ 60 ∧ SrcOK c a5 s5 (N + 3 + 3 + 3 + 3 + 3) := by
  unfold gq180 gq180.F
  obtain ⟨v, a', s', e, hv, h'⟩ := va0 h4 (by omega) [ByteArray.empty, (⟨#[49]⟩ : ByteArray), (⟨#[50]⟩ : ByteArray), (⟨#[120]⟩ : ByteArray), (⟨#[108, 111, 110, 103, 101, 114, 32, 118, 97, 108, 117, 101]⟩ : ByteArray)] (by decide) (by decide)
  rw [e, Option.bind_some]
  exact ⟨_, _, _, rfl, val_of hv, h'⟩
 obtain ⟨val, a5, s5, e5, hval, h5⟩ := hd
 obtain ⟨v6, a6, s6, e6, h6⟩ := w60 h5 (by omega) 4 (by decide) (by decide)
 obtain ⟨v7, a7, s7, e7, hv7, h7⟩ := u3e h6 (by omega) 2 (by decide) (by decide)
 obtain ⟨v8, a8, s8, e8, hv8, h8⟩ := u3e h7 (by omega) 3 (by decide) (by decide)
 have hkind : ∃ k0 : Int, rdE (.int .i64) [(1 : Int), (1 : Int), (2 : Int), (2 : Int), (3 : Int)] v1.toNat = k0 ∧ (k0 = 1 ∨ k0 = 2 ∨ k0 = 3) := by
  refine ⟨_, rfl, ?_⟩
  obtain ⟨w, rfl⟩ : ∃ w : Nat, v1 = w := ⟨v1.toNat, by omega⟩
  have : w < 5 := by omega
  match w, this with
  | 0, _ => exact .inl rfl
  | 1, _ => exact .inl rfl
  | 2, _ => exact .inr (.inl rfl)
  | 3, _ => exact .inr (.inl rfl)
  | 4, _ => exact .inr (.inr rfl)
 obtain ⟨k0, ek, hk0⟩ := hkind
 rw [e1, Option.bind_some]
 dsimp only
 rw [u10 (u17 hv1.1 (by simpa using hv1.2)), e2, Option.bind_some]
 dsimp only
 rw [e3, Option.bind_some]
 dsimp only
 rw [e4, Option.bind_some]
 dsimp only
 rw [e5, Option.bind_some]
 dsimp only
 rw [ek, wr (x := 1 + v2) (by omega) (by omega), wr (x := 1 + v3) (by omega) (by omega)]
 have ok : ∀ (v : ByteArray), v.size ≤ 60 → (k0 = 3 → v = ByteArray.empty) → v5c k0 (1 + v2) (1 + v3) key v = true := by
  intro v hv h3
  have i1 : u40 (1 + v2) = true := by simp [u40]; omega
  have i2 : u40 (1 + v3) = true := by simp [u40]; omega
  unfold v5c
  rw [i1, i2, ud hv, hkey]
  rcases hk0 with rfl | rfl | rfl
  ·simp
  ·simp
  ·rw [h3 rfl]; simp [u2f]
 have ko : ∀ w : Int, 0 ≤ w → w < 2 → v5c (4 + w) (1 + v8) 0 ByteArray.empty ByteArray.empty = true := by
  intro w hw0 hw1
  have i1 : u40 (1 + v8) = true := by simp [u40]; omega
  unfold v5c
  rw [i1]
  rcases (show w = 0 ∨ w = 1 by omega) with rfl | rfl <;> simp [u2f, u40]
 unfold gq163.j1
 have tail : ∀ (v : ByteArray), v.size ≤ 60 → (k0 = 3 → v = ByteArray.empty) → ∃ k se q key' val' a' s',
   ((gq181 c a5 s5 (4 : Int)).bind fun r5 =>
    cond r5.1 ((gq140 r5.2.1 r5.2.2.1 r5.2.2.2 (2 : Int)).bind fun r6 => (gq140 r6.2.1 r6.2.2.1 r6.2.2.2 (3 : Int)).bind fun r7 =>
     some (IntKind.wrap .i64 ((4 : Int) + r6.1), IntKind.wrap .i64 ((1 : Int) + r7.1), (0 : Int), ByteArray.empty, ByteArray.empty, r7.2.1, r7.2.2.1, r7.2.2.2))
     (some (k0, 1 + v2, 1 + v3, key, v, r5.2.1, r5.2.2.1, r5.2.2.2))) = some (k, se, q, key', val', c, a', s') ∧ v5c k se q key' val' = true ∧ (0 ≤ k ∧ k < 256) ∧ SrcOK c a' s' (N + 24) := by
  intro v hv h3
  rw [e6, Option.bind_some]
  dsimp only
  cases v6 with
  | false =>
   rw [cond_false]
   exact ⟨_, _, _, _, _, _, _, rfl, ok v hv h3, by omega, h6.mono (by omega) (by omega)⟩
  | true =>
   rw [cond_true, e7, Option.bind_some]
   dsimp only
   rw [e8, Option.bind_some]
   dsimp only
   rw [wr (x := 4 + v7) (by omega) (by omega), wr (x := 1 + v8) (by omega) (by omega)]
   exact ⟨_, _, _, _, _, _, _, rfl, ko v7 hv7.1 hv7.2, by omega, h8.mono (by omega) (by omega)⟩
 by_cases h3 : k0 = 3
 ·rw [show (k0 == 3) = true from beq_iff_eq.2 h3, cond_true]
  exact tail ByteArray.empty (by decide) (fun _ => rfl)
 ·rw [show (k0 == 3) = false from beq_eq_false_iff_ne.2 h3, cond_false]
  exact tail val hval (fun h => absurd h h3)
def u42 (t k : Int) (D : List Int) : Bool :=
 (decide (1 ≤ t) && decide (t ≤ 1000000)) && (if k = 0 then decide (D = []) else if k = 1 then decide (1 ≤ D.length) && decide (D.length ≤ 100) else if k = 2 then ubf D else false)
theorem v8c (t k : Int) (D : List Int) (hD : IsBytes D) (hl : D.length ≤ 1000000000000) : gq146 t k (strL D) = some (u42 t k D) := by
 unfold gq146 gq146.F u42
 rw [u2b, bs]
 cases (decide (1 ≤ t) && decide (t ≤ 1000000)) with
 | false => rfl
 | true =>
  rw [Bool.not_true, cf, Bool.true_and]
  have b : ∀ z : Int, k ≠ z → (k == z) = false := fun z h => beq_eq_false_iff_ne.2 h
  by_cases h0 : k = 0
  ·subst h0
   rw [if_pos rfl, show ((0 : Int) == 0) = true from rfl, ct, ← u82, u84 hD IsBytes.nil]
  by_cases h1 : k = 1
  ·subst h1
   rw [if_neg h0, if_pos rfl, b 0 h0, cf, show ((1 : Int) == 1) = true from rfl, ct, u2b, bs, u11]
   congr 2 <;> (rw [Bool.eq_iff_iff, decide_eq_true_iff, decide_eq_true_iff]; omega)
  by_cases h2 : k = 2
  ·subst h2
   rw [if_neg h0, if_neg h1, if_pos rfl, b 0 h0, cf, b 1 h1, cf, show ((2 : Int) == 2) = true from rfl, ct, uef D hD hl, bs]
  rw [if_neg h0, if_neg h1, if_neg h2, b 0 h0, cf, b 1 h1, cf, b 2 h2, cf]
theorem v63 (t k : Int) (D : List Int) (hD : IsBytes D) (hl : D.length ≤ 1000000000000) : gq132 t k (strL D) = some (u42 t k D) := by
 unfold gq132 gq132.F u42
 rw [u58, bs]
 cases (decide (1 ≤ t) && decide (t ≤ 1000000)) with
 | false => rfl
 | true =>
  rw [Bool.not_true, cf, Bool.true_and]
  have b : ∀ z : Int, k ≠ z → (k == z) = false := fun z h => beq_eq_false_iff_ne.2 h
  by_cases h0 : k = 0
  ·subst h0
   rw [if_pos rfl, show ((0 : Int) == 0) = true from rfl, ct, ← u82, u84 hD IsBytes.nil]
  by_cases h1 : k = 1
  ·subst h1
   rw [if_neg h0, if_pos rfl, b 0 h0, cf, show ((1 : Int) == 1) = true from rfl, ct, u11]
   by_cases h : 1 ≤ D.length
   ·rw [ud (by omega : (D.length : Int) ≥ 1), ct, ud h, Bool.true_and]
    congr 1
    rw [Bool.eq_iff_iff, decide_eq_true_iff, decide_eq_true_iff]; omega
   ·rw [uf (by omega : ¬ (D.length : Int) ≥ 1), cf, uf h, Bool.false_and]
  by_cases h2 : k = 2
  ·subst h2
   obtain ⟨m, hm⟩ := v38 D hD hl
   rw [if_neg h0, if_neg h1, if_pos rfl, b 0 h0, cf, b 1 h1, cf, show ((2 : Int) == 2) = true from rfl, ct, hm, bs]
  rw [if_neg h0, if_neg h1, if_neg h2, b 0 h0, cf, b 1 h1, cf, b 2 h2, cf]
theorem vb3 {D : List Int} (h : ubf D = true) : D.length ≤ 7 := by
 unfold ubf at h
 simp only [Bool.and_eq_true, List.all_eq_true] at h
 obtain ⟨⟨_, h1⟩, h2⟩ := h
 have key : ∀ (l : List Int) (a : Int), (∀ x ∈ l, u29 x = true) → u74 l = true → (∀ x ∈ l.head?, a ≤ x) → a ≤ 7 → (l.length : Int) ≤ 7 - a := by
  intro l
  induction l with
  | nil => intro a _ _ _ ha; simp; omega
  | cons x l ih =>
   intro a h1 h2 h3 ha
   have hx := h1 x List.mem_cons_self
   simp only [u29, Bool.and_eq_true, decide_eq_true_iff] at hx
   have h4 := h3 x (by simp)
   simp only [u74, Bool.and_eq_true] at h2
   have := ih (x + 1) (fun y hy => h1 y (List.mem_cons_of_mem _ hy)) h2.2 (fun y hy => by
    cases l with
    | nil => simp at hy
    | cons z l =>
     simp at hy; subst hy
     have := h2.1
     simp at this
     omega) (by omega)
   simp
   omega
 have := key D 0 h1 h2 (fun x hx => by
  cases D with
  | nil => simp at hx
  | cons y D =>
   simp at hx; subst hx
   have := h1 y List.mem_cons_self
   simp only [u29, Bool.and_eq_true, decide_eq_true_iff] at this
   exact this.1) (by omega)
 omega
theorem ue7 {t k : Int} {D : List Int} (h : u42 t k D = true) : D.length ≤ 100 ∧ (1 ≤ t ∧ t ≤ 1000000) ∧ 0 ≤ k ∧ k ≤ 2 := by
 unfold u42 at h
 simp only [Bool.and_eq_true, decide_eq_true_iff] at h
 obtain ⟨⟨h1, h2⟩, h3⟩ := h
 split at h3
 ·rename_i h0
  subst h0
  have : D = [] := by simpa using h3
  subst this
  exact ⟨by simp, ⟨h1, h2⟩, by omega, by omega⟩
 ·split at h3
  ·rename_i h0
   subst h0
   simp only [Bool.and_eq_true, decide_eq_true_iff] at h3
   exact ⟨h3.2, ⟨h1, h2⟩, by omega, by omega⟩
  ·split at h3
   ·rename_i h0
    subst h0
    have := vb3 h3
    exact ⟨by omega, ⟨h1, h2⟩, by omega, by omega⟩
   ·simp at h3
def entB (t k : Int) (D : List Int) : List Int := beL t 4 ++ beL k 1 ++ cntB D
theorem wa {t k : Int} {D : List Int} (hD : IsBytes D) : IsBytes (entB t k D) := ((u25 _ _).append (u25 _ _)).append (ub2 hD)
theorem uea (t k : Int) (D : List Int) : (entB t k D).length = 6 + D.length := by
 simp [entB, cntB, u14]
 omega
theorem wb (t k : Int) (D : List Int) (hD : IsBytes D) (hl : D.length ≤ 1000000) : gq134 t k (strL D) = some (entB t k D) := by
 unfold gq134 gq134.F
 simp only [v36, bs, u1d hD, u11, wr8m]
 rw [u10 (u28 (by simp [u14])), u10 (u28 (by simp [u14]; omega))]
 simp [entB, cntB, beL1]
structure PE where
 t : Int
 k : Int
 D : List Int
 r : List Int
def pEnt : List Int → Option PE
 | a :: b :: c :: d :: e :: l => match pCnt l with
  | some (D, l1) => some ⟨((a * 256 + b) * 256 + c) * 256 + d, e, D, l1⟩
  | none => none
 | _ => none
theorem w20 (l : List Int) (hb : IsBytes l) (hl : l.length ≤ 1000000) : ∃ g1 g2 g3, gq164 (strL l) = some (match pEnt l with | some x => (x.t, x.k, strL x.D, decide (x.r = []) && u42 x.t x.k x.D) | none => (g1, g2, g3, false)) := by
 unfold gq164 gq164.F
 match l, hb, hl with
 | [], hb, hl => exact ⟨_, _, _, by simp only [ua9 [] 4 (by simp), u83, u9e, bs, Bool.not_true, cf, pEnt]; rfl⟩
 | [a], hb, hl => exact ⟨_, _, _, by simp only [ua9 [a] 4 (by simp), u83, u9e, bs, Bool.not_true, cf, pEnt]; rfl⟩
 | [a, b], hb, hl => exact ⟨_, _, _, by simp only [ua9 [a, b] 4 (by simp), u83, u9e, bs, Bool.not_true, cf, pEnt]; rfl⟩
 | [a, b, c], hb, hl => exact ⟨_, _, _, by simp only [ua9 [a, b, c] 4 (by simp), u83, u9e, bs, Bool.not_true, cf, pEnt]; rfl⟩
 | [a, b, c, d], hb, hl => exact ⟨_, _, _, by simp only [rnum4 a b c d _ hb, ua9 [] 1 (by simp), u83, u9e, bs, Bool.not_true, cf, pEnt]; rfl⟩
 | a :: b :: c :: d :: e :: l, hb, hl =>
  have h4 := hb.tail.tail.tail.tail
  have h5 : IsBytes l := h4.tail
  obtain ⟨r1, h1⟩ := rcnt_eq l h5
  simp only [rnum4 a b c d _ hb, rnum1 e _ h4, bs, h1, pEnt]
  cases h2 : pCnt l with
  | none => exact ⟨_, _, _, by simp only [bs, Bool.not_true, cf]; rfl⟩
  | some x =>
   obtain ⟨D, l1⟩ := x
   obtain ⟨hD, hl1, _, hDl⟩ := ub8 h5 h2
   refine ⟨0, 0, ByteArray.empty, ?_⟩
   simp only [bs, Bool.not_false, ct, ← u82, u84 hl1 IsBytes.nil, v8c _ _ D hD (by omega)]
   cases decide (l1 = []) <;> rfl
theorem w8c {t k : Int} {D : List Int} (ht : 0 ≤ t ∧ t < 4294967296) (hk : 0 ≤ k ∧ k < 256) (hD : D.length < 256) : pEnt (entB t k D) = some ⟨t, k, D, []⟩ := by
 have e : entB t k D = (t / 16777216 % 256) :: (t / 65536 % 256) :: (t / 256 % 256) :: (t % 256) :: (k % 256) :: (cntB D ++ []) := by
  unfold entB
  rw [beL1, beL4]
  simp
 rw [e, pEnt, w61 hD]
 simp only [Option.some.injEq, PE.mk.injEq, and_true]
 omega
theorem va3 {k s q : Int} {K V : List Int} (h : v5c k s q (strL K) (strL V) = true) : K.length ≤ 24 ∧ V.length ≤ 60 ∧ u40 s = true ∧ u40 q = true ∧ 1 ≤ k ∧ k ≤ 5 := by
 unfold v5c at h
 simp only [Bool.and_eq_true] at h
 obtain ⟨h1, h2, h3, h4⟩ := h
 have h3 := of_decide_eq_true h3
 rw [u11] at h3
 refine ⟨?_, h3, h1, h2, ?_⟩
 ·split at h4
  ·simp only [ufa, Bool.and_eq_true, decide_eq_true_iff, u11] at h4; omega
  ·split at h4
   ·simp only [ufa, Bool.and_eq_true, decide_eq_true_iff, u11] at h4; omega
   ·split at h4
    ·simp only [Bool.and_eq_true] at h4
     have := congrArg ByteArray.size (sEq_iff.1 h4.1)
     rw [u11] at this
     rw [this]; decide
    ·simp at h4
 ·split at h4
  ·omega
  ·split at h4
   ·omega
   ·split at h4
    ·omega
    ·simp at h4
theorem entry_eq {c : List Int} {a s N : Int} (h : SrcOK c a s N) (hN : N + 33 ≤ 4611686018427387904) : ∃ t k D a' s', gq141 c a s = some (t, k, strL D, c, a', s') ∧ IsBytes D ∧ u42 t k D = true ∧ t ≤ 4 ∧ SrcOK c a' s' (N + 33) := by
 unfold gq141 gq141.F
 obtain ⟨v1, a1, s1, e1, hv1, h1⟩ := u3e h (by omega) 4 (by decide) (by decide)
 obtain ⟨ck, cs, cq, key, val, a2, s2, e2, hok, hck, h2⟩ := vf4 h1 (by omega)
 obtain ⟨K, hK, rfl⟩ := exStr key
 obtain ⟨Vl, hV, rfl⟩ := exStr val
 obtain ⟨hKl, hVl, hs, hq, hk1, hk2⟩ := va3 hok
 obtain ⟨v3, a3, s3, e3, hv3, h3⟩ := u3e h2 (by omega) 6 (by decide) (by decide)
 rw [e1, bs]
 dsimp only
 rw [e2, bs]
 dsimp only
 rw [w10 ck cs cq K Vl hK hV (by omega) (by omega) hs hq, bs, e3, bs]
 dsimp only
 rw [wr (x := 1 + v1) (by omega) (by omega)]
 have hT : (decide (1 ≤ 1 + v1) && decide (1 + v1 ≤ 1000000)) = true := by simp; omega
 by_cases h30 : v3 = 0
 ·subst h30
  rw [show ((0 : Int) == 0) = true from rfl, ct]
  exact ⟨_, 0, [], _, _, rfl, IsBytes.nil, by unfold u42; rw [hT]; rfl, by omega, h3.mono (by omega) (by omega)⟩
 ·rw [show (v3 == 0) = false from beq_eq_false_iff_ne.2 h30, cf]
  by_cases h31 : v3 = 1
  ·subst h31
   rw [show ((1 : Int) == 1) = true from rfl, ct]
   obtain ⟨v4, a4, s4, e4, hv4, h4⟩ := va0 h3 (by omega) [(⟨#[0, 1, 2]⟩ : ByteArray), (⟨#[0, 1]⟩ : ByteArray), (⟨#[0, 1, 2, 3]⟩ : ByteArray), (⟨#[4]⟩ : ByteArray)] (by decide) (by decide)
   rw [e4, bs]
   dsimp only
   have : ∃ D, IsBytes D ∧ v4 = strL D ∧ ubf D = true := by
    simp only [List.mem_cons, List.not_mem_nil, or_false] at hv4
    have b : ∀ l : List Int, (l.all fun x => decide (0 ≤ x) && decide (x < 256)) = true → IsBytes l := fun l h y hy => by
     have := List.all_eq_true.1 h y hy
     simpa using this
    rcases hv4 with rfl | rfl | rfl | rfl
    ·exact ⟨[0, 1, 2], b _ rfl, rfl, rfl⟩
    ·exact ⟨[0, 1], b _ rfl, rfl, rfl⟩
    ·exact ⟨[0, 1, 2, 3], b _ rfl, rfl, rfl⟩
    ·exact ⟨[4], b _ rfl, rfl, rfl⟩
   obtain ⟨D, hD, rfl, hm⟩ := this
   exact ⟨_, 2, D, _, _, rfl, hD, by unfold u42; rw [hT]; simp [hm], by omega, h4.mono (by omega) (by omega)⟩
  ·rw [show (v3 == 1) = false from beq_eq_false_iff_ne.2 h31, cf]
   refine ⟨_, 1, _, _, _, rfl, w1b hK hV, ?_, by omega, h3.mono (by omega) (by omega)⟩
   unfold u42
   rw [hT]
   have := vbd ck cs cq K Vl
   simp
   omega
theorem u8b (s : ByteArray) (h : s.size ≤ 1000000000000) : ∃ n, gq103 s = some n := by
 unfold gq103 gq103.F
 have key : ∀ (m n i : Nat) (a : Int), i + m = s.size → m < n → ∃ r, gq103.l1 (fun n_ => some n_) n s a s.size i = some r := by
  intro m
  induction m with
  | zero =>
   intro n i a e hn
   obtain ⟨n, rfl⟩ : ∃ q, n = q + 1 := ⟨n - 1, by omega⟩
   simp only [gq103.l1]
   rw [uf (by omega), cf]
   exact ⟨_, rfl⟩
  | succ m ih =>
   intro n i a e hn
   obtain ⟨n, rfl⟩ : ∃ q, n = q + 1 := ⟨n - 1, by omega⟩
   simp only [gq103.l1]
   rw [ud (by omega), ct, u10 (ud1 (by decide)), u10 (u17 (by omega) (by omega)), wr (x := (i : Int) + 1) (by omega) (by omega), show ((i : Int) + 1) = ((i + 1 : Nat) : Int) by omega]
   exact ih n (i + 1) _ (by omega) (by omega)
 exact key s.size fuel 0 0 (by omega) (u1c (by omega))
theorem w4c (l : List Int) (hb : IsBytes l) (hl : l.length ≤ 1000000) : ∃ g1 g2 g3, gq165 l = some (match pEnt l with | some x => (x.t, x.k, strL x.D, decide (x.r = []) && u42 x.t x.k x.D) | none => (g1, g2, g3, false)) := by
 unfold gq165 gq165.F
 have b1 : ∀ p, gq98 l p true 1 = some (0, l, p, true) := fun p => vd7 l p 1 (by decide)
 have n1 := fun h => v2e l hb hl 4 (by omega) 0 (by omega) h
 have a1 := fun h => v1f l hb hl 4 (by omega) 0 h
 have n2 := fun h0 h => v2e l hb hl 1 (by omega) 4 h0 h
 have a2 := fun h => v1f l hb hl 1 (by omega) 4 h
 have c1 : ((4 : Nat) : Int) = 4 := rfl
 have c2 : ((1 : Nat) : Int) = 1 := rfl
 by_cases h4 : l.length < 4
 ·have h1 := n1 (by omega)
  simp only [Int.natCast_zero, c1] at h1
  have hp : pEnt l = none := by
   match l, h4 with
   | [], _ => rfl
   | [_], _ => rfl
   | [_, _], _ => rfl
   | [_, _, _], _ => rfl
  rw [hp]
  exact ⟨_, _, _, by simp only [h1, b1, ude, bs, Bool.not_true, cf]; rfl⟩
 ·have h1 := a1 (by omega)
  simp only [Int.natCast_zero, c1, Nat.zero_add] at h1
  by_cases h5 : l.length = 4
  ·have h2 := n2 (by omega) (by omega)
   simp only [c1, c2] at h2
   have hp : pEnt l = none := by
    match l, h5 with
    | [_, _, _, _], _ => rfl
   rw [hp]
   exact ⟨_, _, _, by simp only [h1, h2, b1, ude, bs, Bool.not_true, cf]; rfl⟩
  ·have h2 := a2 (by omega)
   simp only [c1, c2, show 4 + 1 = 5 from rfl] at h2
   obtain ⟨a, b, c, d, e, r, hL⟩ : ∃ a b c d e r, l = a :: b :: c :: d :: e :: r := by
    match l, h4, h5 with
    | [], h, _ => exact absurd (by simp) h
    | [_], h, _ => exact absurd (by simp) h
    | [_, _], h, _ => exact absurd (by simp) h
    | [_, _, _], h, _ => exact absurd (by simp) h
    | [_, _, _, _], _, h => exact absurd rfl h
    | a :: b :: c :: d :: e :: r, _, _ => exact ⟨a, b, c, d, e, r, rfl⟩
   have e1 : beN 0 ((l.drop 0).take 4) = ((a * 256 + b) * 256 + c) * 256 + d := by rw [hL]; simp [beN]
   have e2 : beN 0 ((l.drop 4).take 1) = e := by rw [hL]; simp [beN]
   rw [e1] at h1
   rw [e2] at h2
   have hd : l.drop 5 = r := by rw [hL]; rfl
   have h6 : IsBytes r := by rw [← hd]; exact hb.drop 5
   have hlen : l.length = r.length + 5 := by rw [hL]; rfl
   obtain ⟨q, n, h7, h7', h8⟩ := scnt_eq l hb hl 5 (by omega)
   obtain ⟨rb, ra, rd⟩ := q
   dsimp only at h7' h8
   subst h7'
   rw [hd] at h8
   have c5 : ((5 : Nat) : Int) = 5 := rfl
   rw [c5] at h7 h2
   simp only [h1, h2, h7, bs]
   have hp : pEnt rb = match pCnt r with
     | some (D, l1) => some ⟨((a * 256 + b) * 256 + c) * 256 + d, e, D, l1⟩
     | none => none := by rw [hL]; rfl
   rw [hp]
   cases h9 : pCnt r with
   | none =>
    rw [h9] at h8
    obtain ⟨q, h10⟩ := h8
    exact ⟨_, _, _, by simp only [h10, bs, Bool.not_true, cf]; rfl⟩
   | some x =>
    obtain ⟨D, l1⟩ := x
    obtain ⟨hD, hl1, _, hDl⟩ := ub8 h6 h9
    rw [h9] at h8
    dsimp only at h8
    obtain ⟨rfl, h10, h11, h12⟩ := h8
    refine ⟨0, 0, ByteArray.empty, ?_⟩
    simp only [h10, bs, Bool.not_false, ct, v63 _ _ D hD (by omega)]
    have : (((rb.length - l1.length : Nat) : Int) == (rb.length : Int)) = decide (l1 = []) := by
     rw [Bool.eq_iff_iff, beq_iff_eq, decide_eq_true_iff, ← List.length_eq_zero_iff]
     omega
    rw [this]
    cases decide (l1 = []) <;> rfl
def ChkE (term : Int) (l : List (El ue)) (i : Nat) : Prop := ∃ h : i < l.length, u42 l[i].1 l[i].2.1 (bytesL l[i].2.2) = true ∧ l[i].1 ≤ term ∧ ∀ (h0 : 0 < i), (l[i - 1]'(by omega)).1 ≤ l[i].1
def LogOK (term : Int) (l : List (El ue)) : Prop := l.length ≤ 60 ∧ ∀ i, i < l.length → ChkE term l i
def StOK (t v : Int) (l : List (El ue)) : Prop := (0 ≤ t ∧ t ≤ 1000000) ∧ (-1 ≤ v ∧ v ≤ 6) ∧ LogOK t l
def Short (l : List (El ue)) : Prop := l.length ≤ 1000000000000 ∧ ∀ e ∈ l, e.2.2.size ≤ 1000000000000
theorem vfe (t k : Int) (s : ByteArray) (h : s.size ≤ 1000000000000) : gq146 t k s = some (u42 t k (bytesL s)) := by
 have := v8c t k (bytesL s) (IsBytes.bytesL s) (by rw [u13]; exact h)
 rwa [u1e] at this
theorem vf7 (t k : Int) (s : ByteArray) (h : s.size ≤ 1000000000000) : gq132 t k s = some (u42 t k (bytesL s)) := by
 have := v63 t k (bytesL s) (IsBytes.bytesL s) (by rw [u13]; exact h)
 rwa [u1e] at this
theorem logOK_i (l : List (El ue)) (term : Int) (hs : Short l) : ∃ b, gq92 l term = some b ∧ (b = true ↔ LogOK term l) := by
 unfold gq92 gq92.F
 have key : ∀ (m n j : Nat), j + m = l.length → m < n → ∃ b, gq92.l1 (fun log1 => some (decide ((List.length log1 : Int) ≤ (60 : Int)))) (fun b => some b) n l term l l.length j = some b ∧ (b = true ↔ l.length ≤ 60 ∧ ∀ i, j ≤ i → i < l.length → ChkE term l i) := by
  intro m
  induction m with
  | zero =>
   intro n j e hn
   obtain ⟨n, rfl⟩ : ∃ q, n = q + 1 := ⟨n - 1, by omega⟩
   simp only [gq92.l1]
   rw [uf (by omega), cf]
   refine ⟨_, rfl, ?_⟩
   rw [decide_eq_true_iff]
   exact ⟨fun h => ⟨by omega, fun i h1 h2 => by omega⟩, fun h => by have := h.1; omega⟩
  | succ m ih =>
   intro n j e hn
   obtain ⟨n, rfl⟩ : ∃ q, n = q + 1 := ⟨n - 1, by omega⟩
   have hj : j < l.length := by omega
   have hlen := hs.1
   have hsz := hs.2 _ (List.getElem_mem hj)
   obtain ⟨b, h1, h2⟩ := ih n (j + 1) (by omega) (by omega)
   simp only [gq92.l1]
   rw [ud (by omega), ct, u10 (u17 (by omega) (by omega)), Int.toNat_natCast, u1b (k := ue) hj, vfe _ _ _ hsz, bs, wr (x := (j : Int) + 1) (by omega) (by omega), show ((j : Int) + 1) = ((j + 1 : Nat) : Int) by omega]
   have no : ∀ q : Prop, (¬ ChkE term l j) → (∃ b, (some false : Option Bool) = some b ∧ (b = true ↔ l.length ≤ 60 ∧ ∀ i, j ≤ i → i < l.length → ChkE term l i)) := fun _ hc => ⟨false, rfl, by simp; intro _; exact ⟨j, Nat.le_refl _, hj, hc⟩⟩
   cases hok : u42 l[j].1 l[j].2.1 (bytesL l[j].2.2) with
   | false =>
    rw [Bool.not_false, ct]
    exact no True fun ⟨_, h3, _⟩ => by rw [hok] at h3; simp at h3
   | true =>
    rw [Bool.not_true, cf]
    by_cases ht : l[j].1 > term
    ·rw [ud ht, ct]
     exact no True fun ⟨_, _, h3, _⟩ => absurd h3 (Int.not_le.2 ht)
    ·rw [uf ht, cf]
     have yes : (∀ (h0 : 0 < j), (l[j - 1]'(by omega)).1 ≤ l[j].1) → ∃ b', gq92.l1 (fun log1 => some (decide ((List.length log1 : Int) ≤ (60 : Int)))) (fun b => some b) n l term l l.length ((j + 1 : Nat) : Int) = some b' ∧ (b' = true ↔ l.length ≤ 60 ∧ ∀ i, j ≤ i → i < l.length → ChkE term l i) := fun hp => by
      refine ⟨b, h1, h2.trans ⟨fun ⟨h3, h4⟩ => ⟨h3, fun i h5 h6 => ?_⟩, fun ⟨h3, h4⟩ => ⟨h3, fun i h5 h6 => h4 i (by omega) h6⟩⟩⟩
      rcases Nat.eq_or_lt_of_le h5 with rfl | h5
      ·exact ⟨hj, hok, Int.not_lt.1 ht, hp⟩
      ·exact h4 i h5 h6
     by_cases h0 : (j : Int) > 0
     ·rw [ud h0, ct, wr (x := (j : Int) - 1) (by omega) (by omega), u10 (u17 (by omega) (by omega)), show ((j : Int) - 1).toNat = j - 1 by omega, u1b (k := ue) (show j - 1 < l.length by omega)]
      by_cases hp : (l[j - 1]'(by omega)).1 > l[j].1
      ·rw [ud hp, ct]
       exact no True fun ⟨_, _, _, h3⟩ => absurd (h3 (by omega)) (Int.not_le.2 hp)
      ·rw [uf hp, cf]
       exact yes fun _ => Int.not_lt.1 hp
     ·rw [uf h0, cf]
      exact yes fun h => by omega
 obtain ⟨b, h1, h2⟩ := key l.length fuel 0 (by omega) (u1c (by have := hs.1; omega))
 exact ⟨b, h1, h2.trans ⟨fun ⟨h3, h4⟩ => ⟨h3, fun i h => h4 i (by omega) h⟩, fun ⟨h3, h4⟩ => ⟨h3, fun i _ h => h4 i h⟩⟩⟩
theorem w36 (t v : Int) (l : List (El ue)) (hs : Short l) : ∃ b, gq47 t v l = some b ∧ (b = true ↔ StOK t v l) := by
 unfold gq47 gq47.F StOK
 rw [u2b, bs]
 by_cases h1 : 0 ≤ t ∧ t ≤ 1000000
 ·rw [ud h1.1, ud h1.2, Bool.and_self, ct, u2b, bs]
  by_cases h2 : -1 ≤ v ∧ v ≤ 6
  ·obtain ⟨b, h3, h4⟩ := logOK_i l t hs
   rw [ud h2.1, ud h2.2, Bool.and_self, ct, h3, bs]
   exact ⟨b, rfl, h4.trans ⟨fun h => ⟨h1, h2, h⟩, fun h => h.2.2⟩⟩
  ·rw [show (decide (-1 ≤ v) && decide (v ≤ 6)) = false by rw [← Bool.not_eq_true, Bool.and_eq_true, decide_eq_true_iff, decide_eq_true_iff]; exact h2, cf]
   exact ⟨false, rfl, by simp; intro _ _ h3 h4; exact absurd ⟨h3, h4⟩ h2⟩
 ·rw [show (decide (0 ≤ t) && decide (t ≤ 1000000)) = false by rw [← Bool.not_eq_true, Bool.and_eq_true, decide_eq_true_iff, decide_eq_true_iff]; exact h1, cf]
  exact ⟨false, rfl, by simp; intro h3 h4; exact absurd ⟨h3, h4⟩ h1⟩
theorem v68 (t v : Int) (l : List (El ue)) (hs : Short l) : ∃ b, gq79 t v l = some b ∧ (b = true ↔ StOK t v l) := by
 unfold gq79 gq79.F StOK
 have key : l.length ≤ 60 → ∀ (m n j : Nat), j + m = l.length → m < n → ∃ b, gq79.l1 (some true) (fun b => some b) n j t v l = some b ∧ (b = true ↔ ∀ i, j ≤ i → i < l.length → ChkE t l i) := by
  intro h60 m
  induction m with
  | zero =>
   intro n j e hn
   obtain ⟨n, rfl⟩ : ∃ q, n = q + 1 := ⟨n - 1, by omega⟩
   simp only [gq79.l1]
   rw [uf (by omega), cf]
   exact ⟨_, rfl, by simp; intro i h1 h2; omega⟩
  | succ m ih =>
   intro n j e hn
   obtain ⟨n, rfl⟩ : ∃ q, n = q + 1 := ⟨n - 1, by omega⟩
   have hj : j < l.length := by omega
   have hsz := hs.2 _ (List.getElem_mem hj)
   obtain ⟨b, h1, h2⟩ := ih n (j + 1) (by omega) (by omega)
   simp only [gq79.l1]
   rw [ud (by omega), ct, u10 (u17 (by omega) (by omega)), Int.toNat_natCast, u1b (k := ue) hj, vf7 _ _ _ hsz, bs, wr (x := (j : Int) + 1) (by omega) (by omega), show ((j : Int) + 1) = ((j + 1 : Nat) : Int) by omega]
   have no : ∀ q : Prop, (¬ ChkE t l j) → (∃ b, (some false : Option Bool) = some b ∧ (b = true ↔ ∀ i, j ≤ i → i < l.length → ChkE t l i)) := fun _ hc => ⟨false, rfl, by simp; exact ⟨j, Nat.le_refl _, hj, hc⟩⟩
   cases hok : u42 l[j].1 l[j].2.1 (bytesL l[j].2.2) with
   | false =>
    rw [Bool.not_false, ct]
    exact no True fun ⟨_, h3, _⟩ => by rw [hok] at h3; simp at h3
   | true =>
    rw [Bool.not_true, cf, u10 (u17 (by omega) (by omega))]
    by_cases ht : l[j].1 > t
    ·rw [ud ht, ct]
     exact no True fun ⟨_, _, h3, _⟩ => absurd h3 (Int.not_le.2 ht)
    ·rw [uf ht, cf]
     have yes : (∀ (h0 : 0 < j), (l[j - 1]'(by omega)).1 ≤ l[j].1) → ∃ b', gq79.l1 (some true) (fun b => some b) n ((j + 1 : Nat) : Int) t v l = some b' ∧ (b' = true ↔ ∀ i, j ≤ i → i < l.length → ChkE t l i) := fun hp => by
      refine ⟨b, h1, h2.trans ⟨fun h4 i h5 h6 => ?_, fun h4 i h5 h6 => h4 i (by omega) h6⟩⟩
      rcases Nat.eq_or_lt_of_le h5 with rfl | h5
      ·exact ⟨hj, hok, Int.not_lt.1 ht, hp⟩
      ·exact h4 i h5 h6
     by_cases h0 : (j : Int) > 0
     ·rw [ud h0, ct, wr (x := (j : Int) - 1) (by omega) (by omega), u10 (u17 (by omega) (by omega)), u10 (u17 (by omega) (by omega)), show ((j : Int) - 1).toNat = j - 1 by omega, u1b (k := ue) (show j - 1 < l.length by omega)]
      by_cases hp : (l[j - 1]'(by omega)).1 > l[j].1
      ·rw [ud hp, ct]
       exact no True fun ⟨_, _, _, h3⟩ => absurd (h3 (by omega)) (Int.not_le.2 hp)
      ·rw [uf hp, cf]
       exact yes fun _ => Int.not_lt.1 hp
     ·rw [uf h0, cf]
      exact yes fun h => by omega
 rw [u58, bs]
 by_cases h1 : 0 ≤ t ∧ t ≤ 1000000
 ·rw [ud h1.1, ud h1.2, Bool.and_self, Bool.not_true, cf, u58, bs]
  by_cases h2 : -1 ≤ v ∧ v ≤ 6
  ·rw [ud h2.1, ud h2.2, Bool.and_self, Bool.not_true, cf]
   by_cases h3 : (l.length : Int) > 60
   ·rw [ud h3, ct]
    exact ⟨false, rfl, by simp; intro _ _ _ _ h4; have := h4.1; omega⟩
   ·rw [uf h3, cf]
    obtain ⟨b, h4, h5⟩ := key (by omega) l.length fuel 0 (by omega) (u1c (by omega))
    exact ⟨b, h4, h5.trans ⟨fun h => ⟨h1, h2, by omega, fun i hi => h i (by omega) hi⟩, fun h i _ hi => h.2.2.2 i hi⟩⟩
  ·rw [show (decide (-1 ≤ v) && decide (v ≤ 6)) = false by rw [← Bool.not_eq_true, Bool.and_eq_true, decide_eq_true_iff, decide_eq_true_iff]; exact h2, Bool.not_false, ct]
   exact ⟨false, rfl, by simp; intro _ _ h3 h4; exact absurd ⟨h3, h4⟩ h2⟩
 ·rw [show (decide (0 ≤ t) && decide (t ≤ 1000000)) = false by rw [← Bool.not_eq_true, Bool.and_eq_true, decide_eq_true_iff, decide_eq_true_iff]; exact h1, Bool.not_false, ct]
  exact ⟨false, rfl, by simp; intro h3 h4; exact absurd ⟨h3, h4⟩ h1⟩
def segV : List Int → Int
 | [a, b, c] => cond (a == 115 && (digB b && digB c)) ((b - 48) * 10 + (c - 48)) 0
 | _ => 0
def segB (s : ByteArray) : Int := segV (bytesL s)
theorem vfd (l : List Int) : 0 ≤ segV l ∧ segV l ≤ 99 := by
 unfold segV
 split
 ·rename_i a b c
  cases h : (a == 115 && (digB b && digB c)) with
  | false => rw [cond_false]; omega
  | true =>
   rw [Bool.and_eq_true, Bool.and_eq_true] at h
   have h1 := h.2.1
   have h2 := h.2.2
   unfold digB at h1 h2
   rw [Bool.and_eq_true, decide_eq_true_iff, decide_eq_true_iff] at h1 h2
   rw [cond_true]
   omega
 ·exact ⟨by decide, by decide⟩
theorem u33 (s : ByteArray) : 0 ≤ segB s ∧ segB s ≤ 99 := vfd _
def digitsD : ByteArray := ⟨#[48, 49, 50, 51, 52, 53, 54, 55, 56, 57]⟩
set_option maxRecDepth 100000 in
theorem dig_fin : ∀ n : Fin 256, ([48, 49, 50, 51, 52, 53, 54, 55, 56, 57] : List UInt8).contains (UInt8.ofNat n.1) = (decide (48 ≤ n.1) && decide (n.1 ≤ 57)) := by decide
theorem ub9 {b : Int} (h0 : 0 ≤ b) (h1 : b < 256) : ([48, 49, 50, 51, 52, 53, 54, 55, 56, 57] : List UInt8).contains (UInt8.ofNat b.toNat) = digB b := by
 have := dig_fin ⟨b.toNat, by omega⟩
 dsimp only at this
 rw [this]
 unfold digB
 congr 1
 ·rw [decide_eq_decide]; omega
 ·rw [decide_eq_decide]; omega
theorem trim2 (b c : Int) (hb : 0 ≤ b ∧ b < 256) (hc : 0 ≤ c ∧ c < 256) : ∃ r, gq152 (strL [b, c]) digitsD = some r ∧ sEq r ByteArray.empty = (digB b && digB c) := by
 refine ⟨trimS (strL [b, c]) digitsD, ?_, ?_⟩
 ·rw [vdd]
  unfold gq152.F
  rw [ve8, u11]
  rfl
 ·rw [vdc, u4a, show digitsD.data.toList = [48, 49, 50, 51, 52, 53, 54, 55, 56, 57] from rfl]
  have e : ∀ l : List UInt8, sEq (⟨l.toArray⟩ : ByteArray) ByteArray.empty = l.isEmpty := fun l => by
   cases l with
   | nil => exact u2f _
   | cons x l =>
    rw [u56]
    refine decide_eq_false fun h => ?_
    have := congrArg (fun a : ByteArray => a.data.toList) h
    simp at this
  rw [e]
  have h1 := ub9 hb.1 hb.2
  have h2 := ub9 hc.1 hc.2
  unfold Lib.trimS Lib.trimRightS Lib.trimLeftS
  simp only [List.map_cons, List.map_nil, List.reverse_cons, List.reverse_nil, List.nil_append, List.cons_append]
  cases hd : digB c with
  | false =>
   rw [hd] at h2
   rw [List.dropWhile_cons_of_neg (by rw [h2]; decide), Bool.and_false]
   simp only [List.reverse_cons, List.reverse_nil, List.nil_append, List.cons_append]
   cases hd1 : digB b with
   | false => rw [hd1] at h1; rw [List.dropWhile_cons_of_neg (by rw [h1]; decide)]; rfl
   | true => rw [hd1] at h1; rw [List.dropWhile_cons_of_pos h1, List.dropWhile_cons_of_neg (by rw [h2]; decide)]; rfl
  | true =>
   rw [hd] at h2
   rw [List.dropWhile_cons_of_pos h2, Bool.and_true]
   cases hd1 : digB b with
   | false =>
    rw [hd1] at h1
    rw [List.dropWhile_cons_of_neg (by rw [h1]; decide)]
    simp only [List.reverse_cons, List.reverse_nil, List.nil_append]
    rw [List.dropWhile_cons_of_neg (by rw [h1]; decide)]
    rfl
   | true =>
    rw [hd1] at h1
    rw [List.dropWhile_cons_of_pos h1]
    rfl
theorem three {l : List Int} (h : l.length = 3) : ∃ a b c, l = [a, b, c] := by
 match l, h with
 | [a, b, c], _ => exact ⟨a, b, c, rfl⟩
theorem seg_i (l : List Int) (hb : IsBytes l) (hl : l.length ≤ 1000000000000000) : gq115 (strL l) = some (segV l) := by
 unfold gq115 gq115.F
 rw [u11]
 by_cases h3 : l.length = 3
 ·obtain ⟨a, b, c, rfl⟩ := three h3
  have ha := hb a (by simp)
  have hb' := hb b (by simp)
  have hc := hb c (by simp)
  have g0 : u21 (strL [a, b, c]) 0 = a := u22 hb (by decide) (by simp)
  have g1 : u21 (strL [a, b, c]) 1 = b := u22 hb (by decide) (by simp)
  have g2 : u21 (strL [a, b, c]) 2 = c := u22 hb (by decide) (by simp)
  rw [show ((([a, b, c] : List Int).length : Int) != 3) = false from rfl, cf, u10 (u17 (by decide) (by simp)), g0, g1, g2]
  show _ = some (cond (a == 115 && (digB b && digB c)) ((b - 48) * 10 + (c - 48)) 0)
  cases h0 : a == 115 with
  | false => rw [bne, h0, Bool.not_false, ct]; rfl
  | true =>
   obtain ⟨r, hr1, hr2⟩ := trim2 b c hb' hc
   rw [bne, h0, Bool.not_true, cf, u10 (u4f (by decide) (by simp) (by simp)), u36, show sub [a, b, c] 1 (([a, b, c] : List Int).length : Int) = [b, c] from rfl, show (⟨#[48, 49, 50, 51, 52, 53, 54, 55, 56, 57]⟩ : ByteArray) = digitsD from rfl, hr1, bs, hr2]
   cases hd : (digB b && digB c) with
   | false => rfl
   | true =>
    rw [Bool.and_eq_true] at hd
    have h1 := hd.1
    have h2 := hd.2
    unfold digB at h1 h2
    rw [Bool.and_eq_true, decide_eq_true_iff, decide_eq_true_iff] at h1 h2
    rw [Bool.not_true, cf, u10 (u17 (by decide) (by simp)), u10 (u17 (by decide) (by simp)), wr8 (by omega) (by omega), wr8 (by omega) (by omega), wr (x := b - 48) (by omega) (by omega), wr (x := c - 48) (by omega) (by omega), wr (x := (b - 48) * 10) (by omega) (by omega), wr (by omega) (by omega)]
    rfl
 ·rw [show ((l.length : Int) != 3) = true by simp; omega, ct]
  unfold segV
  split
  ·exact absurd rfl h3
  ·rfl
theorem seg_s (l : List Int) (hb : IsBytes l) (hl : l.length ≤ 1000000000000000) : gq130 (strL l) = some (segV l) := by
 unfold gq130 gq130.F
 rw [u11]
 by_cases h3 : l.length = 3
 ·obtain ⟨a, b, c, rfl⟩ := three h3
  have ha := hb a (by simp)
  have hb' := hb b (by simp)
  have hc := hb c (by simp)
  have g0 : u21 (strL [a, b, c]) 0 = a := u22 hb (by decide) (by simp)
  have g1 : u21 (strL [a, b, c]) 1 = b := u22 hb (by decide) (by simp)
  have g2 : u21 (strL [a, b, c]) 2 = c := u22 hb (by decide) (by simp)
  rw [show ((([a, b, c] : List Int).length : Int) != 3) = false from rfl, cf, u10 (u17 (by decide) (by simp)), g0, g1, g2, v95, v95, bs]
  show _ = some (cond (a == 115 && (digB b && digB c)) ((b - 48) * 10 + (c - 48)) 0)
  cases h0 : a == 115 with
  | false => rw [bne, h0, Bool.not_false, ct]; rfl
  | true =>
   rw [bne, h0, Bool.not_true, cf, u10 (u17 (by decide) (by simp))]
   cases h1 : digB b with
   | false => rfl
   | true =>
    rw [Bool.not_true, cf, u10 (u17 (by decide) (by simp)), bs]
    cases h2 : digB c with
    | false => rfl
    | true =>
     unfold digB at h1 h2
     rw [Bool.and_eq_true, decide_eq_true_iff, decide_eq_true_iff] at h1 h2
     rw [Bool.not_true, cf, u10 (u17 (by decide) (by simp)), u10 (u17 (by decide) (by simp)), wr (x := b) (by omega) (by omega), wr (x := c) (by omega) (by omega), wr (x := b - 48) (by omega) (by omega), wr (x := 10 * (b - 48)) (by omega) (by omega), wr (x := 10 * (b - 48) + c) (by omega) (by omega), wr (by omega) (by omega)]
     show some _ = some ((b - 48) * 10 + (c - 48))
     congr 1
     omega
 ·rw [show ((l.length : Int) != 3) = true by simp; omega, ct]
  unfold segV
  split
  ·exact absurd rfl h3
  ·rfl
theorem w71 (s : ByteArray) (h : s.size ≤ 1000000000000000) : gq115 s = some (segB s) := by
 have := seg_i (bytesL s) (IsBytes.bytesL s) (by rw [u13]; exact h)
 rwa [u1e] at this
theorem segB_s (s : ByteArray) (h : s.size ≤ 1000000000000000) : gq130 s = some (segB s) := by
 have := seg_s (bytesL s) (IsBytes.bytesL s) (by rw [u13]; exact h)
 rwa [u1e] at this
def nmV (n : Int) : ByteArray := strL [115, 48 + n / 10, 48 + n % 10]
theorem w4f (d : Int) (h0 : 0 ≤ d) (h1 : d < 10) : gq147 fuel d = some (strL [48 + d]) := by
 obtain ⟨q, hq⟩ : ∃ q, fuel = q + 1 := ⟨fuel - 1, by rw [u54]⟩
 rw [hq]
 unfold gq147 gq147.F
 rw [show (d == -9223372036854775808) = false by rw [beq_eq_false_iff_ne]; omega, cf, uf (by omega), cf, ud h1, ct, wr (by omega) (by omega), wr8 (by omega) (by omega)]
theorem nm_s (n : Int) (h0 : 0 ≤ n) (h1 : n ≤ 99) : gq99 n = some (nmV n) := by
 unfold gq99 gq99.F
 rw [u10 (u61 (by decide)), u6e h0, u35 h0, wr (by omega) (by omega), w4f _ (by omega) (by omega), bs, u10 (u43 (by rw [u11, show ByteArray.size (⟨#[115]⟩ : ByteArray) = 1 from rfl]; simp)), u10 (u61 (by decide)), w4f _ (by omega) (by omega), bs, show (⟨#[115]⟩ : ByteArray) = strL [115] from rfl, u27, u10 (u43 (by rw [u11, u11]; simp)), u27]
 rfl
theorem u67 {s : ByteArray} (h : 0 < segB s) : s = nmV (segB s) := by
 unfold segB at h ⊢
 have e : s = strL (bytesL s) := (u1e s).symm
 obtain ⟨l, hl⟩ : ∃ l, bytesL s = l := ⟨_, rfl⟩
 rw [hl] at h e ⊢
 rw [e]
 unfold segV at h ⊢
 split at h
 ·rename_i a b c
  cases hd : (a == 115 && (digB b && digB c)) with
  | false => rw [hd] at h; simp at h
  | true =>
   rw [Bool.and_eq_true, Bool.and_eq_true, beq_iff_eq] at hd
   obtain ⟨rfl, h1, h2⟩ := hd
   unfold digB at h1 h2
   rw [Bool.and_eq_true, decide_eq_true_iff, decide_eq_true_iff] at h1 h2
   rw [cond_true, nmV]
   congr 1
   simp only [List.cons.injEq, and_true, true_and]
   omega
 ·simp at h
theorem find_s {R : Type} (kke : Option R) (kkr : Int → Option R) (room : Int) (l : List (El u4)) (hl : l.length ≤ 1000000000) (name : ByteArray) : ∀ (m fu j : Nat), j + m = l.length → m < fu →
  gq124.l1 kke kkr fu name (j : Int) room l = match (l.drop j).findIdx? (fun f => sEq f.1 name) with | none => kke | some d => kkr ((j + d : Nat) : Int)
 | 0, fu + 1, j, e, _ => by
  simp only [gq124.l1]
  rw [uf (by omega), cf, List.drop_of_length_le (by omega)]
  rfl
 | m + 1, fu + 1, j, e, hf => by
  have hj : j < l.length := by omega
  simp only [gq124.l1]
  rw [ud (by omega), ct, u10 (u17 (by omega) (by omega)), Int.toNat_natCast, u1b (k := u4) hj, wr (by omega) (by omega), show ((j : Int) + 1) = ((j + 1 : Nat) : Int) by omega, find_s kke kkr room l hl name m fu (j + 1) (by omega) (by omega), u18 hj, List.findIdx?_cons]
  cases sEq l[j].1 name with
  | true => rw [ct]; rfl
  | false =>
   rw [cf]
   cases (l.drop (j + 1)).findIdx? (fun f => sEq f.1 name) with
   | none => rfl
   | some d => exact congrArg kkr (by simp; omega)
theorem v9b (room : Int) (l : List (El u4)) (hl : l.length ≤ 1000000000) (name : ByteArray) : gq124 room l name = some (match l.findIdx? (fun f => sEq f.1 name) with | none => -1 | some d => (d : Int)) := by
 unfold gq124 gq124.F
 have := find_s (some (-1 : Int)) (fun i => some i) room l hl name l.length fuel 0 (by omega) (u1c (by omega))
 rw [Int.natCast_zero, List.drop_zero] at this
 rw [this]
 cases l.findIdx? (fun f => sEq f.1 name) with
 | none => rfl
 | some d => simp
theorem DK.find {room : Int} {l : List (El u4)} (h : DK room l) {i : Nat} (hi : i < l.length) : l.findIdx? (fun f => sEq f.1 l[i].1) = some i := by
 rw [List.findIdx?_eq_some_iff_getElem]
 refine ⟨hi, u2f _, fun j hj => ?_⟩
 have : ¬ sEq (l[j]'(by omega)).1 l[i].1 = true := fun e => by
  have := h.inj (by omega) hi (sEq_iff.1 e)
  omega
 simpa using this
theorem data_s {room : Int} {l : List (El u4)} (h : DK room l) {i : Nat} (hi : i < l.length) (hs : 0 < segB l[i].1) : gq96 room l (segB l[i].1) = some l[i].2.1 := by
 have hr := u33 l[i].1
 have hlen := h.len
 unfold gq96 gq96.F
 rw [nm_s _ (by omega) (by omega), bs, ← u67 hs, v9b room l (by omega), h.find hi, bs]
 dsimp only
 rw [u10 (u17 (by omega) (by omega)), Int.toNat_natCast, u1b (k := u4) hi]
def segs (l : List (El u4)) : List (El u4) := l.filter fun f => decide (0 < segB f.1)
theorem w80 {R : Type} (kke : Int → Int → List (El u4) → Option R) (l : List (El u4)) (hl : l.length ≤ 1000000) (hn : NamesFit l) (a b : Int) : ∀ (m fu j : Nat) (acc : List (El u4)), j + m = l.length → m < fu → acc.length + m ≤ 1000000 →
  gq66.l1 kke fu l (l.length : Int) (j : Int) a b acc = kke a b (acc ++ segs (l.drop j))
 | 0, fu + 1, j, acc, e, _, _ => by
  simp only [gq66.l1]
  rw [uf (by omega), cf, List.drop_of_length_le (by omega), segs, List.filter_nil, List.append_nil]
 | m + 1, fu + 1, j, acc, e, hf, ha => by
  have hj : j < l.length := by omega
  simp only [gq66.l1]
  rw [ud (by omega), ct, u10 (u17 (by omega) (by omega)), Int.toNat_natCast, w71 _ (hn.rd hj), bs, u1b (k := u4) hj, wr (by omega) (by omega), show ((j : Int) + 1) = ((j + 1 : Nat) : Int) by omega, u18 hj, segs, List.filter_cons]
  by_cases h : 0 < segB l[j].1
  ·rw [ud h, ct, if_pos rfl, u10 (u28 (by simp; omega)), w80 kke l hl hn a b m fu (j + 1) _ (by omega) (by omega) (by simp; omega), List.append_assoc]
   rfl
  ·rw [uf h, cf, if_neg (by decide), w80 kke l hl hn a b m fu (j + 1) _ (by omega) (by omega) (by omega)]
   rfl
theorem w26 {R : Type} (kke : List Int → Option R) (l : List (El u4)) (hl : l.length ≤ 1000000) (hn : NamesFit l) (a : Int) : ∀ (m fu j : Nat) (acc : List Int), j + m = l.length → m < fu → acc.length + m ≤ 1000000 →
  gq95.l1 kke fu (j : Int) a l acc = kke (acc ++ (segs (l.drop j)).map fun f => segB f.1)
 | 0, fu + 1, j, acc, e, _, _ => by
  simp only [gq95.l1]
  rw [uf (by omega), cf, List.drop_of_length_le (by omega), segs, List.filter_nil, List.map_nil, List.append_nil]
 | m + 1, fu + 1, j, acc, e, hf, ha => by
  have hj : j < l.length := by omega
  simp only [gq95.l1]
  rw [ud (by omega), ct, u10 (u17 (by omega) (by omega)), Int.toNat_natCast, segB_s _ (hn.rd hj), bs, u1b (k := u4) hj, wr (by omega) (by omega), show ((j : Int) + 1) = ((j + 1 : Nat) : Int) by omega, u18 hj, segs, List.filter_cons]
  by_cases h : 0 < segB l[j].1
  ·rw [ud h, ct, if_pos rfl, u10 (u28 (by simp; omega)), w26 kke l hl hn a m fu (j + 1) _ (by omega) (by omega) (by simp; omega), List.map_cons, List.append_assoc]
   rfl
  ·rw [uf h, cf, if_neg (by decide), w26 kke l hl hn a m fu (j + 1) _ (by omega) (by omega) (by omega)]
   rfl
theorem v2a (room : Int) (l : List (El u4)) (hl : l.length ≤ 100000) (hn : NamesFit l) : gq95 room l = some ((segs l).map fun f => segB f.1) := by
 unfold gq95 gq95.F
 have := w26 (fun out => some out) l (by omega) hn room l.length fuel 0 [] (by omega) (u1c (by omega)) (by simp; omega)
 rw [Int.natCast_zero, List.drop_zero, List.nil_append] at this
 exact this
abbrev WV := Int × List ByteArray × List ByteArray × Int × Int
def wErr (c : Int) : WV := (0, [], [], 0, c)
def frF (f : El u4) : List ByteArray × Int × Int := frT (bytesL f.2.1)
def cW (F : Int) (R N : List ByteArray) (last : Int) (f : El u4) (isLast : Bool) : Int :=
 cond ((frF f).2.2 != 0 && !(isLast && (frF f).2.2 == 16)) 8
  (cond (!N.isEmpty && segB f.1 != last + 1) 3
  (cond ((frF f).1.isEmpty) (cond isLast 0 3)
  (cond ((ByteArray.size ((frF f).1.headD ByteArray.empty) : Int) != 4) 3
  (cond (!N.isEmpty && beN 0 (bytesL ((frF f).1.headD ByteArray.empty)) != F + (R.length : Int)) 3 0))))
def fW (F : Int) (N : List ByteArray) (f : El u4) : Int := cond ((frF f).1.isEmpty || !N.isEmpty) F (beN 0 (bytesL ((frF f).1.headD ByteArray.empty)))
def wGo : List (El u4) → Int → Int → List ByteArray → List ByteArray → Int → WV
 | [], _, F, R, N, T => (F, R, N, T, 0)
 | f :: fs, last, F, R, N, T => cond (cW F R N last f fs.isEmpty != 0) (wErr (cW F R N last f fs.isEmpty))
  (wGo fs (segB f.1) (fW F N f) (R ++ (frF f).1.tail) (N ++ [f.1]) ((ByteArray.size f.2.1 : Int) - (frF f).2.1))
theorem vcf (f : El u4) : (frF f).2.2 = 0 ∨ (frF f).2.2 = 8 ∨ (frF f).2.2 = 16 := vd5 _ _
theorem u9b (f : El u4) : (frF f).1.length ≤ ByteArray.size f.2.1 ∧ (∀ s ∈ (frF f).1, s.size ≤ 200) ∧ 0 ≤ (frF f).2.1 ∧ (frF f).2.1 ≤ (ByteArray.size f.2.1 : Int) := by
 obtain ⟨h1, h2, h3⟩ := vcb (bytesL f.2.1).length (bytesL f.2.1)
 rw [u13] at h1 h3
 unfold frF frT
 rw [u13] at *
 exact ⟨h1, h2, by show (0 : Int) ≤ (((frs _ _).2.1 : Nat) : Int); omega, by show (((frs _ _).2.1 : Nat) : Int) ≤ _; omega⟩
theorem frF_i (f : El u4) (h : ByteArray.size f.2.1 ≤ 1000000000) : gq102 f.2.1 = some (frF f) := by
 have := frames_i (bytesL f.2.1) (IsBytes.bytesL _) (by rw [u13]; exact h)
 rwa [u1e] at this
theorem frF_s (f : El u4) (h : ByteArray.size f.2.1 ≤ 1000000000) : gq97 (bytesL f.2.1) = some (frF f) := frames_s (bytesL f.2.1) (IsBytes.bytesL _) (by rw [u13]; exact h)
theorem num4 (s : ByteArray) (h : (s.size : Int) = 4) : gq103 s = some (beN 0 (bytesL s)) := by
 have := u3c (bytesL s) (IsBytes.bytesL s) (by rw [u13]; omega)
 rwa [u1e] at this
theorem v1c (s : ByteArray) (h : (s.size : Int) = 4) : 0 ≤ beN 0 (bytesL s) ∧ beN 0 (bytesL s) < 4294967296 := by
 have := u53 (bytesL s) 0 (IsBytes.bytesL s) (by decide)
 rw [u13, show s.size = 4 by omega] at this
 exact ⟨this.1, by have := this.2; omega⟩
theorem num4_s (s : ByteArray) (h : (s.size : Int) = 4) : gq98 (bytesL s) 0 false 4 = some (beN 0 (bytesL s), bytesL s, 4, false) := by
 have hl : (bytesL s).length = 4 := by rw [u13]; omega
 have := v4f (bytesL s) (IsBytes.bytesL s) (by omega) 4 (by decide) 0 (by omega)
 rw [List.drop_zero, if_pos (by omega), List.take_of_length_le (by omega)] at this
 exact this
theorem seg_step (F : Int) (R N : List ByteArray) (T last : Int) (f : El u4) (isLast : Bool) (hF : 0 ≤ F ∧ F < 4294967296) (hR : R.length ≤ 1000000) (hN : N.length ≤ 1000) (hl : 0 ≤ last ∧ last ≤ 99) (hlN : (0 < last) ↔ N.isEmpty = false) (hn : ByteArray.size f.1 ≤ 1000000) (hd : ByteArray.size f.2.1 ≤ 1000000) :
  ∃ s, gq116 F R N T last f.1 f.2.1 f.2.2 isLast = some (cW F R N last f isLast, s) ∧ (cW F R N last f isLast = 0 → s = (fW F N f, R ++ (frF f).1.tail, N ++ [f.1], (ByteArray.size f.2.1 : Int) - (frF f).2.1, segB f.1)) := by
 unfold gq116 gq116.F gq116.j2 gq116.j1
 have hsz := u9b f
 have hsr := u33 f.1
 have hcode := vcf f
 rw [frF_i f (by omega), bs, w71 f.1 (by omega), bs]
 unfold cW fW
 obtain ⟨t, ht⟩ : ∃ t, frF f = t := ⟨_, rfl⟩
 rw [ht] at hsz hcode ⊢
 obtain ⟨fr, used, code⟩ := t
 obtain ⟨nm, dt, sr⟩ := f
 obtain ⟨sg, hsg⟩ : ∃ sg, segB nm = sg := ⟨_, rfl⟩
 dsimp only at hsz hcode hsr hn hd ⊢
 rw [hsg] at hsr ⊢
 have e1 : decide (last > 0) = !N.isEmpty := by
  rw [Bool.eq_iff_iff, decide_eq_true_iff, Bool.not_eq_true']
  exact hlN
 have e2 : (IntKind.wrap .i64 (last + 1)) = last + 1 := wr (by omega) (by omega)
 have e3 : IntKind.wrap .i64 ((ByteArray.size dt : Int) - used) = (ByteArray.size dt : Int) - used := wr (by omega) (by omega)
 have e4 : grd (gRm ((List.length N + List.length [nm]) * 16)) = fun (x : Option (Int × Int × List ByteArray × List ByteArray × Int × Int)) => x := by
  funext x
  exact u10 (u28 (by simp; omega)) x
 have e5 : ((List.length (N ++ [nm]) : Int) == 1) = N.isEmpty := by
  rw [Bool.eq_iff_iff, beq_iff_eq, List.isEmpty_iff]
  constructor
  ·intro h; simp at h; exact List.eq_nil_of_length_eq_zero (by omega)
  ·rintro rfl; rfl
 have e6 : decide ((List.length (N ++ [nm]) : Int) > 1) = !N.isEmpty := by
  rw [Bool.eq_iff_iff, decide_eq_true_iff, Bool.not_eq_true']
  cases N with
  | nil => simp
  | cons x l => simp; omega
 unfold gq116.j3 gq116.j4 gq153 gq153.F
 simp only [e1, e2, e3, e4, e5, e6]
 cases fr with
 | nil =>
  simp only [List.length_nil, List.isEmpty_nil, Bool.true_or, cond_true, List.tail_nil, List.append_nil, show (((0 : Nat) : Int) == 0) = true from rfl]
  cases code != 0 <;> cases isLast <;> cases code == 16 <;> cases N.isEmpty <;> cases sg != last + 1 <;> first | exact ⟨_, rfl, fun _ => rfl⟩ | exact ⟨_, rfl, fun h => by simp at h⟩
 | cons h0 tl =>
  have hh := hsz.2.1 h0 (by simp)
  have htl : tl.length + 1 ≤ ByteArray.size dt := hsz.1
  obtain ⟨n0, hn0, hn4⟩ : ∃ n0, gq103 h0 = some n0 ∧ (((h0.size : Int) != 4) = false → n0 = beN 0 (bytesL h0)) := by
   by_cases h4 : (h0.size : Int) = 4
   ·exact ⟨_, num4 h0 h4, fun _ => rfl⟩
   ·obtain ⟨n, hn⟩ := u8b h0 (by omega)
    exact ⟨n, hn, fun h => by simp [h4] at h⟩
  have e7 : ((List.length (h0 :: tl) : Int) == 0) = false := by rw [beq_eq_false_iff_ne]; simp; omega
  have e8 : (rdE (.str : Kd) (h0 :: tl) (Int.toNat 0)) = h0 := rfl
  have e9 : IntKind.wrap .i64 (F + (List.length R : Int)) = F + (List.length R : Int) := wr (by omega) (by omega)
  have e10 : sub (h0 :: tl) 1 (List.length (h0 :: tl) : Int) = tl := by
   unfold sub
   rw [Int.toNat_natCast, List.take_length]
   rfl
  simp only [e7, e8, hn0, bs, e9, e10, u10 (u17 (i := 0) (n := List.length (h0 :: tl)) (by decide) (by simp only [List.length_cons]; omega)), u10 (u4f (l := 1) (h := (List.length (h0 :: tl) : Int)) (n := List.length (h0 :: tl)) (by decide) (by simp only [List.length_cons]; omega) (Int.le_refl _)), u10 (u28 (n := (List.length R + List.length tl) * 16) (by omega)), List.isEmpty_cons, Bool.false_or, List.headD_cons, List.tail_cons]
  cases h4 : ((h0.size : Int) != 4) with
  | true => cases code != 0 <;> cases isLast <;> cases code == 16 <;> cases N.isEmpty <;> cases sg != last + 1 <;> first | exact ⟨_, rfl, fun _ => rfl⟩ | exact ⟨_, rfl, fun h => by simp at h⟩
  | false =>
   have := hn4 h4
   subst this
   cases code != 0 <;> cases isLast <;> cases code == 16 <;> cases N.isEmpty <;> cases sg != last + 1 <;> cases beN 0 (bytesL h0) != F + (List.length R : Int) <;> first | exact ⟨_, rfl, fun _ => rfl⟩ | exact ⟨_, rfl, fun h => by simp at h⟩
theorem frs_nil : ∀ {m : Nat} {l : List Int}, (frs m l).1 = [] → (frs m l).2.1 = 0
 | 0, _, _ => rfl
 | m + 1, l, h => by
  unfold frs at h ⊢
  split
  ·rfl
  ·rename_i h0
   rw [if_neg h0] at h
   split
   ·rename_i h1; rw [if_pos h1] at h; cases h
   ·rfl
theorem frF_nil {f : El u4} (h : (frF f).1.isEmpty = true) : (frF f).2.1 = 0 := by
 have := frs_nil (m := (bytesL f.2.1).length) (l := bytesL f.2.1) (List.isEmpty_iff.1 h)
 show (((frs _ _).2.1 : Nat) : Int) = 0
 rw [this]
 rfl
theorem w44 {F : Int} {R N : List ByteArray} {last : Int} {f : El u4} {b : Bool} (h : cW F R N last f b = 0) (hn : (frF f).1.isEmpty = false) : (ByteArray.size ((frF f).1.headD ByteArray.empty) : Int) = 4 := by
 unfold cW at h
 rw [hn] at h
 cases h1 : ((frF f).2.2 != 0 && !(b && (frF f).2.2 == 16)) with
 | true => rw [h1] at h; simp at h
 | false =>
  cases h2 : (!N.isEmpty && segB f.1 != last + 1) with
  | true => rw [h1, h2] at h; simp at h
  | false =>
   rw [h1, h2] at h
   cases h3 : ((ByteArray.size ((frF f).1.headD ByteArray.empty) : Int) != 4) with
   | true => rw [h3] at h; simp at h
   | false => simpa using h3
theorem vef {F : Int} {R N : List ByteArray} {last : Int} {f : El u4} {b : Bool} (h : cW F R N last f b = 0) (hF : 0 ≤ F ∧ F < 4294967296) : 0 ≤ fW F N f ∧ fW F N f < 4294967296 := by
 unfold fW
 cases hn : (frF f).1.isEmpty with
 | true => exact hF
 | false =>
  cases N.isEmpty with
  | true => exact v1c _ (w44 h hn)
  | false => exact hF
def SegOk (S : List (El u4)) : Prop := ∀ f ∈ S, 0 < segB f.1 ∧ ByteArray.size f.1 ≤ 40 ∧ ByteArray.size f.2.1 ≤ 3000
theorem v77 {S : List (El u4)} {j : Nat} (hj : j < S.length) (hS : S.length ≤ 1000) : ((j : Int) == IntKind.wrap .i64 ((S.length : Int) - 1)) = (S.drop (j + 1)).isEmpty := by
 rw [wr (by omega) (by omega), Bool.eq_iff_iff, beq_iff_eq, List.isEmpty_iff, List.drop_eq_nil_iff]
 omega
theorem w6a (S : List (El u4)) (hS : S.length ≤ 100) (hok : SegOk S) (a b : Int) : ∀ (m fu j : Nat) (F : Int) (R N : List ByteArray) (T last : Int), j + m = S.length → m < fu → 0 ≤ F ∧ F < 4294967296 → R.length + 4000 * m ≤ 1000000 → N.length + m ≤ 1000 → 0 ≤ last ∧ last ≤ 99 → ((0 < last) ↔ N.isEmpty = false) →
  gq66.l2 (fun i2 i3 r r1 r2 l l1 => some ((r, l, l1, r1, (0 : Int)) : WV)) (fun i4 i5 i6 => some ((i5, [], [], i6, i4) : WV)) fu (S.length : Int) (j : Int) a b S F T last R N = some (wGo (S.drop j) last F R N T)
 | 0, fu + 1, j, F, R, N, T, last, e, _, _, _, _, _, _ => by
  simp only [gq66.l2]
  rw [uf (by omega), cf, List.drop_of_length_le (by omega), wGo]
 | m + 1, fu + 1, j, F, R, N, T, last, e, hf, hF, hR, hN, hl, hlN => by
  have hj : j < S.length := by omega
  obtain ⟨f, hfe⟩ : ∃ f, S[j] = f := ⟨_, rfl⟩
  obtain ⟨k1, k2, k3⟩ := hok S[j] (List.getElem_mem hj)
  simp only [gq66.l2]
  rw [ud (by omega), ct, u10 (u17 (by omega) (by omega)), Int.toNat_natCast, v77 hj (by omega), u1b (k := u4) hj, u18 hj, wr (x := (j : Int) + 1) (by omega) (by omega), show ((j : Int) + 1) = ((j + 1 : Nat) : Int) by omega]
  rw [hfe] at k1 k2 k3 ⊢
  obtain ⟨s, h1, h2⟩ := seg_step F R N T last f (S.drop (j + 1)).isEmpty hF (by omega) (by omega) hl hlN (by omega) (by omega)
  rw [h1, bs, wGo]
  dsimp only
  by_cases hc : cW F R N last f (S.drop (j + 1)).isEmpty = 0
  ·rw [show (cW F R N last f (S.drop (j + 1)).isEmpty != 0) = false by rw [hc]; rfl, cf, cf, h2 hc]
   have hsz := (u9b f).1
   have hsr := u33 f.1
   exact w6a S hS hok a b m fu (j + 1) _ _ _ _ _ (by omega) (by omega) (vef hc hF) (by simp; omega) (by simp; omega) hsr ⟨fun _ => by simp, fun _ => k1⟩
  ·rw [show (cW F R N last f (S.drop (j + 1)).isEmpty != 0) = true by simp [hc], ct, ct]
   rfl
theorem v93 {room : Int} {l : List (El u4)} (h : DK room l) : SegOk (segs l) := fun f hf => by
 have hm := (List.mem_filter.1 hf)
 obtain ⟨i, hi, rfl⟩ := List.getElem_of_mem hm.1
 exact ⟨of_decide_eq_true hm.2, (u51 (h.name i hi)).2, h.data hm.1⟩
theorem DK.fit {room : Int} {l : List (El u4)} (h : DK room l) : NamesFit l := fun f hf => by
 obtain ⟨i, hi, rfl⟩ := List.getElem_of_mem hf
 have := u51 (h.name i hi)
 omega
def wV (l : List (El u4)) : WV := wGo (segs l) 0 0 [] [] 0
theorem u59 (l : List (El u4)) : (segs l).length ≤ l.length := List.length_filter_le _ _
theorem wal_i {room : Int} {l : List (El u4)} (h : DK room l) : gq66 room l = some (wV l) := by
 have hlen := h.len
 have hs := u59 l
 unfold gq66 gq66.F
 have e1 := w80 (fun i i1 segments => gq66.l2 (fun i2 i3 r r1 r2 l l1 => some ((r, l, l1, r1, (0 : Int)) : WV)) (fun i4 i5 i6 => some ((i5, [], [], i6, i4) : WV)) fuel (List.length segments : Int) (0 : Int) i i1 segments (0 : Int) (0 : Int) (0 : Int) [] []) l (by omega) h.fit 0 0 l.length fuel 0 [] (by omega) (u1c (by omega)) (by simp; omega)
 rw [Int.natCast_zero, List.drop_zero, List.nil_append] at e1
 rw [e1]
 have e2 := w6a (segs l) (by omega) (v93 h) 0 0 (segs l).length fuel 0 0 [] [] 0 0 (by omega) (u1c (by omega)) (by decide) (by simp; omega) (by simp; omega) (by decide) (by simp)
 rw [Int.natCast_zero, List.drop_zero] at e2
 exact e2
theorem w56 {room : Int} {l : List (El u4)} (h : DK room l) (a b : Int) : ∀ (m fu j : Nat) (F : Int) (R N : List ByteArray) (T last : Int), j + m = (segs l).length → m < fu → 0 ≤ F ∧ F < 4294967296 → R.length + 4000 * m ≤ 1000000 → N.length + m ≤ 1000 → (j = 0 ↔ N.isEmpty = true) → (∀ (h0 : 0 < j) (h1 : j - 1 < (segs l).length), last = segB (segs l)[j - 1].1) →
  ∃ v, gq94.l4 (fun i i1 w w1 l l1 => some ((w, l, l1, w1, (0 : Int)) : WV)) (fun i2 i3 i4 l2 l3 => some ((i3, l2, l3, i4, i2) : WV)) fu (j : Int) room l a b F T ((segs l).map fun f => segB f.1) R N = some v ∧
   cond (v.2.2.2.2 != 0) (wErr v.2.2.2.2) v = wGo ((segs l).drop j) last F R N T
 | 0, fu + 1, j, F, R, N, T, last, e, _, _, _, _, _, _ => by
  simp only [gq94.l4]
  rw [List.length_map, uf (by omega), cf, List.drop_of_length_le (by omega), wGo]
  exact ⟨_, rfl, rfl⟩
 | m + 1, fu + 1, j, F, R, N, T, last, e, hf, hF, hR, hN, hjN, hlast => by
  have hlen := h.len
  have hsl := u59 l
  have hj : j < (segs l).length := by omega
  obtain ⟨f, hfe⟩ : ∃ f, (segs l)[j] = f := ⟨_, rfl⟩
  obtain ⟨k1, k2, k3⟩ := v93 h (segs l)[j] (List.getElem_mem hj)
  have hmem : (segs l)[j] ∈ l := (List.mem_filter.1 (List.getElem_mem hj)).1
  obtain ⟨i, hi, hie⟩ := List.getElem_of_mem hmem
  have hmap : rdE (.int .i64 : Kd) ((segs l).map fun f => segB f.1) j = segB (segs l)[j].1 := by
   rw [u1b (k := .int .i64) (show j < List.length (α := Int) ((segs l).map fun f => segB f.1) by rw [List.length_map]; exact hj)]
   simp
  have hdat : gq96 room l (segB (segs l)[j].1) = some (segs l)[j].2.1 := by
   rw [← hie]
   exact data_s h hi (by rw [hie]; exact k1)
  have hsr := u33 (segs l)[j].1
  have hnm : gq99 (segB (segs l)[j].1) = some (segs l)[j].1 := by
   rw [nm_s _ (by omega) (by omega), ← u67 k1]
  have hil : ((j : Int) == IntKind.wrap .i64 ((List.length (List.map (fun f : El u4 => segB f.1) (segs l)) : Int) - 1)) = ((segs l).drop (j + 1)).isEmpty := by
   rw [List.length_map]
   exact v77 hj (by omega)
  simp only [gq94.l4]
  rw [hil, List.length_map, ud (by omega), ct, u10 (u17 (by omega) (by omega)), Int.toNat_natCast, hmap, hdat, bs, frF_s _ (by omega), bs, u18 hj]
  unfold gq94.j1 gq94.j2 gq94.j3
  have e5 : (decide ((j : Int) > 0)) = !N.isEmpty := by
   rw [Bool.eq_iff_iff, decide_eq_true_iff, Bool.not_eq_true', ← Bool.not_eq_true, ← hjN]
   omega
  have e6 : ((j : Int) == 0) = N.isEmpty := by
   rw [Bool.eq_iff_iff, beq_iff_eq, ← hjN]
   omega
  have eg1 : ∀ (x : Option WV), grd (gIx (j : Int) (List.length (List.map (fun f : El u4 => segB f.1) (segs l)))) x = x := fun x => u10 (u17 (by omega) (by rw [List.length_map]; omega)) x
  have en : ∀ (x : Option WV) (s : ByteArray), grd (gRm ((List.length N + List.length [s]) * 16)) x = x := fun x s => u10 (u28 (by simp; omega)) x
  have ew : IntKind.wrap .i64 ((j : Int) + 1) = ((j + 1 : Nat) : Int) := by rw [wr (by omega) (by omega)]; omega
  have eprev : ∀ (x y : Option WV), cond (!N.isEmpty) (grd (gIx (IntKind.wrap .i64 ((j : Int) - 1)) (List.length (List.map (fun f : El u4 => segB f.1) (segs l)))) (cond (segB (segs l)[j].1 != IntKind.wrap .i64 (rdE (.int .i64 : Kd) ((segs l).map fun f => segB f.1) (Int.toNat (IntKind.wrap .i64 ((j : Int) - 1))) + 1)) x y)) y =
    cond (!N.isEmpty && segB (segs l)[j].1 != last + 1) x y := by
   intro x y
   cases hNe : N.isEmpty with
   | true => rfl
   | false =>
    have hj0 : 0 < j := by
     rcases Nat.eq_zero_or_pos j with h0 | h0
     ·have := hjN.1 h0; rw [hNe] at this; cases this
     ·exact h0
    have hl := hlast hj0 (by omega)
    have hlr := u33 (segs l)[j - 1].1
    rw [Bool.not_false, ct, wr (by omega) (by omega), u10 (u17 (by omega) (by rw [List.length_map]; omega)), show ((j : Int) - 1).toNat = j - 1 by omega,
     u1b (k := .int .i64) (show j - 1 < List.length (α := Int) ((segs l).map fun f => segB f.1) by rw [List.length_map]; omega), Bool.true_and]
    have hm2 : (List.map (fun f : El u4 => segB f.1) (segs l))[j - 1]'(by rw [List.length_map]; omega) = segB (segs l)[j - 1].1 := by simp
    rw [hm2, ← hl, wr (by omega) (by omega)]
  simp only [eg1, en, e5, e6, hmap, hnm, bs, ew, Int.toNat_natCast]
  rw [hfe] at k1 k2 k3 hsr eprev ⊢
  have hsz := u9b f
  have hcode := vcf f
  have hnil := frF_nil (f := f)
  have ih := w56 h a b m fu (j + 1)
  have hc4 := fun (b : Bool) (h0 : cW F R N last f b = 0) => vef h0 hF
  rw [wGo]
  unfold cW fW at hc4 ⊢
  obtain ⟨t, ht⟩ : ∃ t, frF f = t := ⟨_, rfl⟩
  have ht' : frF f = t := ht
  rw [ht] at hsz hcode hnil hc4 ⊢
  obtain ⟨fr, used, code⟩ := t
  dsimp only at hsz hcode hnil hc4 ⊢
  obtain ⟨il, hil2⟩ : ∃ il, ((segs l).drop (j + 1)).isEmpty = il := ⟨_, rfl⟩
  rw [hil2]
  have ecode : ∀ (x y : Option WV), cond (code == 8) x (cond (code == 16) (cond (!il) x y) y) = cond (code != 0 && !(il && code == 16)) x y := by
   intro x y
   rcases hcode with rfl | rfl | rfl <;> cases il <;> rfl
  simp only [eprev, ecode]
  cases c1 : (code != 0 && !(il && code == 16)) with
  | true => exact ⟨_, rfl, rfl⟩
  | false =>
   simp only [cf]
   cases c2 : (!N.isEmpty && segB f.1 != last + 1) with
   | true => exact ⟨_, rfl, rfl⟩
   | false =>
    simp only [cf]
    cases fr with
    | nil =>
     have hu := hnil rfl
     subst hu
     cases il with
     | false => exact ⟨_, rfl, rfl⟩
     | true =>
      refine ⟨_, rfl, ?_⟩
      rw [List.isEmpty_iff.1 hil2]
      simp [wGo]
    | cons h0 tl =>
     have hh := hsz.2.1 h0 (by simp)
     have htl : tl.length + 1 ≤ ByteArray.size f.2.1 := hsz.1
     have e7 : ((List.length (h0 :: tl) : Int) == 0) = false := by rw [beq_eq_false_iff_ne]; simp; omega
     have e8 : (rdE (.str : Kd) (h0 :: tl) (Int.toNat 0)) = h0 := rfl
     have e00 : ((0 : Int) != 0) = false := rfl
     have e9 : IntKind.wrap .i64 (F + (List.length R : Int)) = F + (List.length R : Int) := wr (by omega) (by omega)
     have e10 : sub (h0 :: tl) 1 (List.length (h0 :: tl) : Int) = tl := by
      unfold sub
      rw [Int.toNat_natCast, List.take_length]
      rfl
     have e3 : IntKind.wrap .i64 ((ByteArray.size f.2.1 : Int) - used) = (ByteArray.size f.2.1 : Int) - used := wr (by omega) (by omega)
     have g1 : ∀ x : Option WV, grd (gIx 0 (List.length (h0 :: tl))) x = x := fun x => u10 (u17 (by decide) (by simp only [List.length_cons]; omega)) x
     have g2 : ∀ x : Option WV, grd (gSl 1 (List.length (h0 :: tl) : Int) (List.length (h0 :: tl))) x = x := fun x => u10 (u4f (by decide) (by simp only [List.length_cons]; omega) (Int.le_refl _)) x
     have g3 : ∀ x : Option WV, grd (gRm ((List.length R + List.length tl) * 16)) x = x := fun x => u10 (u28 (by omega)) x
     have fin : ∀ F', 0 ≤ F' ∧ F' < 4294967296 → ∃ v, gq94.l4 (fun i i1 w w1 l l1 => some ((w, l, l1, w1, (0 : Int)) : WV)) (fun i2 i3 i4 l2 l3 => some ((i3, l2, l3, i4, i2) : WV)) fu ((j + 1 : Nat) : Int) room l a b F' ((ByteArray.size f.2.1 : Int) - used) ((segs l).map fun f => segB f.1) (R ++ tl) (N ++ [f.1]) = some v ∧
       cond (v.2.2.2.2 != 0) (wErr v.2.2.2.2) v = wGo ((segs l).drop (j + 1)) (segB f.1) F' (R ++ tl) (N ++ [f.1]) ((ByteArray.size f.2.1 : Int) - used) := fun F' hF' =>
      ih F' (R ++ tl) (N ++ [f.1]) ((ByteArray.size f.2.1 : Int) - used) (segB f.1) (by omega) (by omega) hF' (by simp; omega) (by simp; omega) (by simp) (fun _ _ => by simp only [Nat.add_sub_cancel]; rw [hfe])
     simp only [e7, cf, e8, e9, e10, g1, g2, g3, e3, List.isEmpty_cons, Bool.false_or, List.headD_cons, List.tail_cons]
     by_cases h4 : (h0.size : Int) = 4
     ·have hr4 := v1c h0 h4
      simp only [show ((h0.size : Int) != 4) = false by simp [h4], cf, num4_s h0 h4, bs]
      cases hNe : N.isEmpty with
      | true =>
       simp only [Bool.not_true, Bool.false_and, cf, ct, e00]
       exact fin _ hr4
      | false =>
       simp only [Bool.not_false, Bool.true_and, cf, ct]
       cases c3 : beN 0 (bytesL h0) != F + (List.length R : Int) with
       | true => exact ⟨_, rfl, rfl⟩
       | false =>
        simp only [cf, e00]
        exact fin _ hF
     ·simp only [show ((h0.size : Int) != 4) = true by simp [h4], ct]
      exact ⟨_, rfl, rfl⟩
theorem walV_s {room : Int} {l : List (El u4)} (h : DK room l) : ∃ v, gq94 room l = some v ∧ cond (v.2.2.2.2 != 0) (wErr v.2.2.2.2) v = wV l := by
 have hlen := h.len
 have hs := u59 l
 unfold gq94 gq94.F
 rw [v2a room l (by omega) h.fit, bs]
 have e2 := w56 h 0 0 (segs l).length fuel 0 0 [] [] 0 0 (by omega) (u1c (by omega)) (by decide) (by simp; omega) (by simp; omega) (by simp) (fun h0 _ => by omega)
 rw [Int.natCast_zero, List.drop_zero] at e2
 exact e2
noncomputable def u5e (room : Int) (l : List (El u4)) : WV := cond (dOK room l) (wV l) (wErr 1)
theorem uce (room : Int) (l : List (El u4)) (hl : l.length ≤ 1000000000) (h : DFit l) : gq21 room l = some (u5e room l) := by
 unfold gq21 gq21.F u5e
 rw [disk_i room l hl h, bs]
 cases hd : dOK room l with
 | false => rfl
 | true => rw [Bool.not_true, cf, wal_i (w74 hd), bs, ct]
theorem w5a : ∀ (S : List (El u4)) (last F : Int) (R N : List ByteArray) (T : Int) (B : Nat), SegOk S → (∀ s ∈ R, s.size ≤ 200) → R.length ≤ B → (wGo S last F R N T).2.1.length ≤ B + 3000 * S.length ∧ ∀ s ∈ (wGo S last F R N T).2.1, s.size ≤ 200
 | [], _, _, R, _, _, B, _, h1, h2 => ⟨by simpa [wGo] using h2, h1⟩
 | f :: fs, last, F, R, N, T, B, hs, h1, h2 => by
  rw [wGo]
  cases hc : cW F R N last f fs.isEmpty != 0 with
  | true => exact ⟨by simp [wErr], fun s h => by simp [wErr] at h⟩
  | false =>
   have hsz := u9b f
   have hf := hs f (by simp)
   have := w5a fs (segB f.1) (fW F N f) (R ++ (frF f).1.tail) (N ++ [f.1]) ((ByteArray.size f.2.1 : Int) - (frF f).2.1) (B + 3000) (fun g hg => hs g (by simp [hg])) (fun s hm => by
    rcases List.mem_append.1 hm with hm | hm
    ·exact h1 s hm
    ·exact hsz.2.1 s (List.mem_of_mem_tail hm)) (by simp; omega)
   rw [cond_false]
   refine ⟨by have := this.1; simp only [List.length_cons]; omega, this.2⟩
theorem wV_len {room : Int} {l : List (El u4)} (h : DK room l) : (wV l).2.1.length ≤ 24000 ∧ ∀ s ∈ (wV l).2.1, s.size ≤ 200 := by
 have := w5a (segs l) 0 0 [] [] 0 0 (v93 h) (fun s h => by simp at h) (Nat.le_refl _)
 have h1 := u59 l
 have h2 := h.len
 exact ⟨by have := this.1; unfold wV; omega, this.2⟩
theorem v43 : ∀ a b : List UInt8, (Lib.compareBytes a b < 0 ↔ Op.bytesLess a b = true) ∧ (Lib.compareBytes a b = 0 ↔ a = b)
 | [], [] => by simp [Lib.compareBytes, Op.bytesLess]
 | [], _ :: _ => by simp [Lib.compareBytes, Op.bytesLess]
 | _ :: _, [] => by simp [Lib.compareBytes, Op.bytesLess]
 | x :: a, y :: b => by
  have ih := v43 a b
  unfold Lib.compareBytes Op.bytesLess
  by_cases h1 : x < y
  ·rw [if_pos h1]
   have hne : x ≠ y := by rintro rfl; exact absurd h1 (Nat.lt_irrefl _)
   simp [h1, hne]
  ·rw [if_neg h1]
   by_cases h2 : y < x
   ·rw [if_pos h2]
    have hne : x ≠ y := by rintro rfl; exact absurd h2 (Nat.lt_irrefl _)
    simp [h1, hne]
   ·rw [if_neg h2]
    have e : x = y := by
     apply UInt8.toNat_inj.1
     have h1 : ¬ x.toNat < y.toNat := h1
     have h2 : ¬ y.toNat < x.toNat := h2
     omega
    subst e
    simp [h1, ih.1, ih.2]
theorem cmpS_lt (a b : ByteArray) : decide (cmpS a b < 0) = sLt a b := by
 rw [v8f, Bool.eq_iff_iff, decide_eq_true_iff, (v43 _ _).1]
 unfold sLt
 rw [ByteArray.toList_eq, ByteArray.toList_eq]
theorem w7f (a b : ByteArray) : (cmpS a b == 0) = decide (a = b) := by
 rw [v8f, Bool.eq_iff_iff, beq_iff_eq, decide_eq_true_iff, (v43 _ _).2]
 exact ⟨v62, fun h => by rw [h]⟩
def Rise (l : List (El u4)) : Prop := ∀ i (h : i + 1 < l.length), sLt (l[i]'(by omega)).1 l[i + 1].1 = true
theorem half_mid (i j : Nat) (h : i < j) (hj : j ≤ 1000000000) : IntKind.wrap .i64 (iShr .u64 (IntKind.wrap .u64 (IntKind.wrap .i64 ((i : Int) + (j : Int)))) 1) = (((i + j) / 2 : Nat) : Int) := by
 rw [wr (x := (i : Int) + (j : Int)) (by omega) (by omega)]
 have e : IntKind.wrap .u64 ((i : Int) + (j : Int)) = (i : Int) + (j : Int) := by
  unfold IntKind.wrap
  simp [IntKind.signed, IntKind.bits]
  omega
 rw [e]
 unfold iShr
 rw [show min (1 : Int).toNat (IntKind.bits .u64) = 1 from rfl, Int.fdiv_eq_ediv_of_nonneg _ (by decide)]
 rw [wr (by omega) (by omega)]
 omega
noncomputable def cmpF (name : ByteArray) : ((ByteArray × ByteArray × Int × Unit) × ByteArray × Unit) → Option (Int × Unit) := fun t => (gq128 t.1.1 t.1.2.1 t.1.2.2.1 t.2.1).bind fun a => some (a, ())
theorem w78 (f : El u4) (name : ByteArray) : (gq128 f.1 f.2.1 f.2.2 name) = some (cmpS f.1 name) := by
 unfold gq128 gq128.F
 rw [vc8]
 rfl
theorem Rise.lt {l : List (El u4)} (h : Rise l) : ∀ (d i : Nat) (hi : i + d + 1 < l.length), sLt (l[i]'(by omega)).1 (l[i + d + 1]'hi).1 = true
 | 0, i, hi => h i hi
 | d + 1, i, hi => u80 (Rise.lt h d i (by omega)) (h (i + d + 1) (by omega))
structure Pos (l : List (El u4)) (name : ByteArray) (p : Nat) : Prop where
 le : p ≤ l.length
 lo : ∀ q (h : q < l.length), q < p → sLt l[q].1 name = true
 hi : ∀ q (h : q < l.length), p ≤ q → sLt l[q].1 name = false
theorem search_i {R : Type} (kke : List (El u4) → ByteArray → Int → Int → Option R) (l : List (El u4)) (hl : l.length ≤ 1000000) (hr : Rise l) (name : ByteArray) (n_ : Int) : ∀ (m fu i j : Nat), j ≤ i + m → m < fu → i ≤ j → j ≤ l.length →
  (∀ q (h : q < l.length), q < i → sLt l[q].1 name = true) → (∀ q (h : q < l.length), j ≤ q → sLt l[q].1 name = false) →
  ∃ p : Nat, gq127.l1 (cmpF name) kke fu l name n_ (i : Int) (j : Int) = kke l name n_ (p : Int) ∧ Pos l name p := by
 intro m
 induction m with
 | zero =>
  intro fu i j h1 hf h2 h3 hlo hhi
  obtain ⟨fu, rfl⟩ : ∃ q, fu = q + 1 := ⟨fu - 1, by omega⟩
  obtain rfl : i = j := by omega
  simp only [gq127.l1]
  rw [uf (by omega), cf]
  exact ⟨i, rfl, h3, hlo, hhi⟩
 | succ m ih =>
  intro fu i j h1 hf h2 h3 hlo hhi
  obtain ⟨fu, rfl⟩ : ∃ q, fu = q + 1 := ⟨fu - 1, by omega⟩
  simp only [gq127.l1]
  by_cases h : i < j
  ·have hk : (i + j) / 2 < l.length := by omega
   rw [ud (by omega), ct, u10 (ud1 (by decide)), half_mid i j h (by omega), u10 (u17 (by omega) (by omega)), Int.toNat_natCast, u1b (k := u4) hk]
   have ec : cmpF name ((l[(i + j) / 2].1, l[(i + j) / 2].2.1, l[(i + j) / 2].2.2, ()), name, ()) = some (cmpS l[(i + j) / 2].1 name, ()) := by
    unfold cmpF
    dsimp only
    rw [w78]
    rfl
   rw [ec, bs]
   dsimp only
   rw [cmpS_lt, wr (by omega) (by omega), show (((i + j) / 2 : Nat) : Int) + 1 = (((i + j) / 2 + 1 : Nat) : Int) by omega]
   cases hc : sLt l[(i + j) / 2].1 name with
   | true =>
    rw [ct]
    refine ih fu ((i + j) / 2 + 1) j (by omega) (by omega) (by omega) h3 (fun q hq hlt => ?_) hhi
    by_cases he : q = (i + j) / 2
    ·subst he; exact hc
    ·obtain ⟨d, hd⟩ : ∃ d, (i + j) / 2 = q + d + 1 := ⟨(i + j) / 2 - q - 1, by omega⟩
     have h5 := hr.lt d q (by omega)
     simp only [← hd] at h5
     exact u80 h5 hc
   | false =>
    rw [cf]
    refine ih fu i ((i + j) / 2) (by omega) (by omega) (by omega) (by omega) hlo (fun q hq hle => ?_)
    by_cases he : q = (i + j) / 2
    ·subst he; exact hc
    ·obtain ⟨d, rfl⟩ : ∃ d, q = (i + j) / 2 + d + 1 := ⟨q - (i + j) / 2 - 1, by omega⟩
     have h5 := hr.lt d ((i + j) / 2) (by omega)
     rw [← Bool.not_eq_true]
     intro h6
     rw [u80 h5 h6] at hc
     cases hc
  ·obtain rfl : i = j := by omega
   rw [uf (by omega), cf]
   exact ⟨i, rfl, h3, hlo, hhi⟩
theorem uc6 (room : Int) (l : List (El u4)) (hl : l.length ≤ 1000000) (hr : Rise l) (name : ByteArray) : ∃ p : Nat, gq76 room l name = some ((p : Int), match l[p]? with | some f => decide (f.1 = name) | none => false) ∧ Pos l name p := by
 unfold gq76 gq76.F gq127 gq127.F
 obtain ⟨p, e, hp⟩ := search_i (fun x1 target1 n_ i =>
  cond (decide (i < n_)) (
   grd (gIx i (List.length x1)) <|
   (cmpF name (((rdE u4 x1 (Int.toNat i)).1, (rdE u4 x1 (Int.toNat i)).2.1, (rdE u4 x1 (Int.toNat i)).2.2, ()), target1, ())).bind fun r =>
   some (i, (r.1 == (0 : Int)))) (some (i, false))) l hl hr name (l.length : Int) l.length fuel 0 l.length (by omega) (u1c (by omega)) (by omega) (Nat.le_refl _) (fun q _ h => by omega) (fun q h h' => by omega)
 refine ⟨p, ?_, hp⟩
 rw [Int.natCast_zero] at e
 refine (congrArg (fun z => Option.bind z fun r => some (r.1, r.2)) (show _ = _ from e)).trans ?_
 by_cases h : p < l.length
 ·rw [ud (by omega), ct, u10 (u17 (by omega) (by omega)), Int.toNat_natCast, u1b (k := u4) h, List.getElem?_eq_getElem h]
  have ec : cmpF name ((l[p].1, l[p].2.1, l[p].2.2, ()), name, ()) = some (cmpS l[p].1 name, ()) := by
   unfold cmpF
   dsimp only
   rw [w78]
   rfl
  rw [ec, bs]
  dsimp only
  rw [w7f]
  rfl
 ·rw [uf (by omega), cf, List.getElem?_eq_none (by omega)]
  rfl
theorem Pos.of_mem {l : List (El u4)} {name : ByteArray} {p k : Nat} (hp : Pos l name p) (hr : Rise l) (hk : k < l.length) (e : l[k].1 = name) : p = k := by
 rcases Nat.lt_trichotomy p k with h | h | h
 ·obtain ⟨d, rfl⟩ : ∃ d, k = p + d + 1 := ⟨k - p - 1, by omega⟩
  have h5 := hr.lt d p hk
  rw [e, hp.hi p (by omega) (Nat.le_refl _)] at h5
  cases h5
 ·exact h
 ·have h5 := hp.lo k hk h
  rw [e, uaa] at h5
  cases h5
theorem DK.Rise {room : Int} {l : List (El u4)} (h : DK room l) : Rise l := h.rise
theorem put2 {R : Type} {k : Nat} (kke : Bool → ByteArray → ByteArray → Int → Int → Int → List (El u4) → Option R) (room : Int) (l : List (El u4)) (hl : l.length ≤ 1000000) (f f1 : ByteArray) (f2 : Int) (hne : ∀ q (h : q < l.length), k < q → l[q].1 ≠ f) :
  ∀ (m fu i : Nat) (out : List (El u4)), i + m = l.length → m < fu → k < i → out.length + m ≤ 2000000 → gq125.l2 kke fu true (i : Int) room l f f1 f2 0 room out = kke true f f1 f2 0 room (out ++ l.drop i) := by
 intro m
 induction m with
 | zero =>
  intro fu i out e hf hk ho
  obtain ⟨fu, rfl⟩ : ∃ q, fu = q + 1 := ⟨fu - 1, by omega⟩
  simp only [gq125.l2]
  rw [uf (by omega), cf, List.drop_of_length_le (by omega), List.append_nil]
 | succ m ih =>
  intro fu i out e hf hk ho
  obtain ⟨fu, rfl⟩ : ∃ q, fu = q + 1 := ⟨fu - 1, by omega⟩
  have hi : i < l.length := by omega
  simp only [gq125.l2, gq125.j1]
  rw [ud (by omega), ct, Bool.not_true, cf, u10 (u17 (by omega) (by omega)), Int.toNat_natCast, u1b (k := u4) hi, u56, uf (hne i hi hk), Bool.not_false, ct, u10 (u17 (by omega) (by omega)), u10 (u28 (by simp; omega)), wr (by omega) (by omega), show ((i : Int) + 1) = ((i + 1 : Nat) : Int) by omega,
   ih fu (i + 1) _ (by omega) (by omega) (by omega) (by simp; omega), u18 hi, List.append_assoc]
  rfl
theorem put1 {R : Type} (kke : Bool → ByteArray → ByteArray → Int → Int → Int → List (El u4) → Option R) (room : Int) (l : List (El u4)) (hl : l.length ≤ 1000000) (f f1 : ByteArray) (f2 : Int) (k : Nat) (hk : k < l.length) (he : l[k].1 = f) (hlo : ∀ q (h : q < l.length), q < k → sLt l[q].1 f = true) (hne : ∀ q (h : q < l.length), k < q → l[q].1 ≠ f) :
  ∀ (m fu i : Nat), i + m = k → l.length < fu + i → gq125.l2 kke fu false (i : Int) room l f f1 f2 0 room (l.take i) = kke true f f1 f2 0 room (l.take k ++ [(f, (f1, f2))] ++ l.drop (k + 1)) := by
 intro m
 induction m with
 | zero =>
  intro fu i e hf
  obtain rfl : i = k := by omega
  obtain ⟨fu, rfl⟩ : ∃ q, fu = q + 1 := ⟨fu - 1, by omega⟩
  simp only [gq125.l2, gq125.j1]
  rw [ud (by omega), ct, Bool.not_false, ct, u10 (u17 (by omega) (by omega)), Int.toNat_natCast, u1b (k := u4) hk, he, uaa, Bool.not_false, ct, u10 (u28 (by simp; omega)), u10 (u17 (by omega) (by omega)), u2f, Bool.not_true, cf, wr (by omega) (by omega), show ((i : Int) + 1) = ((i + 1 : Nat) : Int) by omega]
  exact put2 (k := i) kke room l hl f f1 f2 hne (l.length - (i + 1)) fu (i + 1) _ (by omega) (by omega) (by omega) (by simp; omega)
 | succ m ih =>
  intro fu i e hf
  obtain ⟨fu, rfl⟩ : ∃ q, fu = q + 1 := ⟨fu - 1, by omega⟩
  have hi : i < l.length := by omega
  have h1 := hlo i hi (by omega)
  simp only [gq125.l2, gq125.j1]
  rw [ud (by omega), ct, Bool.not_false, ct, u10 (u17 (by omega) (by omega)), Int.toNat_natCast, u1b (k := u4) hi, h1, Bool.not_true, cf, u10 (u17 (by omega) (by omega)), u56, uf (ufc h1), Bool.not_false, ct, u10 (u17 (by omega) (by omega)), u10 (u28 (by simp; omega)), wr (by omega) (by omega), show ((i : Int) + 1) = ((i + 1 : Nat) : Int) by omega, ← u81 hi]
  exact ih fu (i + 1) (by omega) (by omega)
theorem put_s (room : Int) (l : List (El u4)) (hl : l.length ≤ 1000000) (hr : Rise l) (f f1 : ByteArray) (f2 : Int) (k : Nat) (hk : k < l.length) (he : l[k].1 = f) : gq125 room l f f1 f2 = some (room, l.set k (f, (f1, f2))) := by
 unfold gq125 gq125.F
 have hlo : ∀ q (h : q < l.length), q < k → sLt l[q].1 f = true := fun q h hq => by
  obtain ⟨d, rfl⟩ : ∃ d, k = q + d + 1 := ⟨k - q - 1, by omega⟩
  have := hr.lt d q hk
  rwa [he] at this
 have hne : ∀ q (h : q < l.length), k < q → l[q].1 ≠ f := fun q h hq => by
  obtain ⟨d, rfl⟩ : ∃ d, q = k + d + 1 := ⟨q - k - 1, by omega⟩
  have := hr.lt d k h
  rw [he] at this
  exact (ufc this).symm
 have := put1 (fun put f f1 f2 i out l =>
  cond (!put) (
   grd (gRm (((List.length l) + (List.length [(f, (f1, f2))])) * 40)) <|
   some (out, l ++ [(f, (f1, f2))])) (some (out, l))) room l hl f f1 f2 k hk he hlo hne k fuel 0 (by omega) (u1c (by omega))
 rw [List.take_zero, Int.natCast_zero] at this
 refine (show _ = _ from this).trans ?_
 rw [Bool.not_true, cf, List.set_eq_take_append_cons_drop, if_pos hk, List.append_assoc]
 rfl
theorem u52 {room : Int} {l : List (El u4)} (h : DK room l) {k : Nat} (hk : k < l.length) : gq76 room l l[k].1 = some ((k : Int), true) := by
 obtain ⟨p, e, hp⟩ := uc6 room l (by have := h.len; omega) h.Rise l[k].1
 obtain rfl := hp.of_mem h.Rise hk rfl
 rw [e, List.getElem?_eq_getElem hk]
 dsimp only
 rw [ud rfl]
theorem v10 {room : Int} {l : List (El u4)} (h : DK room l) {k : Nat} (hk : k < l.length) : gq124 room l l[k].1 = some (k : Int) := by
 rw [v9b room l (by have := h.len; omega), h.find hk]
theorem do_drop {room : Int} {l : List (El u4)} (h : DK room l) {k : Nat} (hk : k < l.length) (N : Int) (a b : ByteArray) (c : List Int) : gq55 room l 4 N l[k].1 a b c = some (0, room, l.take k ++ l.drop (k + 1)) := by
 have hl := h.len
 unfold gq55 gq55.F
 rw [show ((4 : Int) == 1) = false from rfl, cf, show ((4 : Int) == 5) = false from rfl, cf, u2b, bs, show (decide ((2 : Int) ≤ 4) && decide ((4 : Int) ≤ 6)) = true from rfl, Bool.not_true, cf, u52 h hk, bs]
 dsimp only
 rw [Bool.not_true, cf, u10 (u17 (by omega) (by omega)), show ((4 : Int) == 2) = false from rfl, cf, show ((4 : Int) == 3) = false from rfl, cf, show ((4 : Int) == 4) = true from rfl, ct, wr (by omega) (by omega)]
 unfold gq107 gq107.F
 rw [ud (by omega), ud (by omega), ud (by omega), Bool.and_self, Bool.and_self, grd_t, bs, Int.toNat_natCast, show ((k : Int) + 1).toNat = k + 1 by omega]
theorem do_cut {room : Int} {l : List (El u4)} (h : DK room l) {k : Nat} (hk : k < l.length) (N : Int) (h0 : 0 ≤ N) (h1 : N ≤ (ByteArray.size l[k].2.1 : Int)) (a b : ByteArray) (c : List Int) :
  gq55 room l 6 N l[k].1 a b c = some (0, room, l.set k (l[k].1, (cut l[k].2.1 0 N, mn2 l[k].2.2 N))) := by
 have hl := h.len
 unfold gq55 gq55.F
 rw [show ((6 : Int) == 1) = false from rfl, cf, show ((6 : Int) == 5) = false from rfl, cf, u2b, bs, show (decide ((2 : Int) ≤ 6) && decide ((6 : Int) ≤ 6)) = true from rfl, Bool.not_true, cf, u52 h hk, bs]
 dsimp only
 rw [Bool.not_true, cf, u10 (u17 (by omega) (by omega)), show ((6 : Int) == 2) = false from rfl, cf, show ((6 : Int) == 3) = false from rfl, cf, show ((6 : Int) == 4) = false from rfl, cf, show ((6 : Int) == 6) = true from rfl, ct, Int.toNat_natCast, u1b (k := u4) hk, u2b, bs, ud h0, ud h1, Bool.and_self, Bool.not_true, cf, u10 (u4f (by decide) h0 h1), rdE_setE (k := u4) _ _ _ hk, w43]
 rfl
theorem v9f (l : List (El u4)) (hl : l.length ≤ 10000000) : gq101 l = some l := by
 unfold gq101 gq101.F
 rw [u10 (u28 (by simp only [List.length_nil]; omega)), List.nil_append]
 cases l with
 | nil => rw [List.isEmpty_nil, ct, u50]
 | cons f r => rw [List.isEmpty_cons, cf]
theorem w4e (F : Int) (R N' : List ByteArray) (x : ByteArray) (T : Int) (hN : N'.length ≤ 1000000) : gq75 F R (N' ++ [x]) T = some x := by
 unfold gq75 gq75.F
 have e : (List.length (N' ++ [x]) : Int) = (N'.length : Int) + 1 := by simp
 rw [e, show (((N'.length : Int) + 1) == 0) = false by rw [beq_eq_false_iff_ne]; omega, cf, wr (by omega) (by omega), show ((N'.length : Int) + 1 - 1) = (N'.length : Int) by omega, u10 (u17 (by omega) (by simp; omega)), Int.toNat_natCast, u1b (k := .str) (show N'.length < List.length (α := ByteArray) (N' ++ [x]) by simp)]
 simp
theorem last_any (F : Int) (R N : List ByteArray) (T : Int) (hN : N.length ≤ 1000000) : ∃ x, gq75 F R N T = some x := by
 rcases List.eq_nil_or_concat N with rfl | ⟨N', x, rfl⟩
 ·exact ⟨_, rfl⟩
 ·rw [List.concat_eq_append] at hN ⊢
  exact ⟨x, w4e F R N' x T (by simp at hN; omega)⟩
structure DP (room : Int) (l : List (El u4)) : Prop where
 rm : 0 ≤ room ∧ room ≤ 3000
 len : l.length ≤ 8
 tot : (totF l : Int) ≤ room
 name : ∀ f ∈ l, u68 f.1 = true
 rise : l.Pairwise fun a b => sLt a.1 b.1 = true
 sure : ∀ f ∈ l, (0 : Int) ≤ f.2.2 ∧ (f.2.2 : Int) ≤ (ByteArray.size f.2.1 : Int)
theorem DK.dp {room : Int} {l : List (El u4)} (h : DK room l) : DP room l := by
 refine ⟨h.rm, h.len, h.tot, fun f hf => ?_, ?_, fun f hf => ?_⟩
 ·obtain ⟨i, hi, rfl⟩ := List.getElem_of_mem hf
  exact h.name i hi
 ·rw [List.pairwise_iff_getElem]
  intro i j hi hj hij
  obtain ⟨d, rfl⟩ : ∃ d, j = i + d + 1 := ⟨j - i - 1, by omega⟩
  exact h.lt d i hj
 ·obtain ⟨i, hi, rfl⟩ := List.getElem_of_mem hf
  exact h.sure i hi
theorem DP.dk {room : Int} {l : List (El u4)} (h : DP room l) : DK room l :=
 ⟨h.rm, h.len, h.tot, fun i hi => h.name _ (List.getElem_mem hi), fun i hi => List.pairwise_iff_getElem.1 h.rise i (i + 1) (by omega) hi (by omega), fun i hi => h.sure _ (List.getElem_mem hi)⟩
theorem totF_sub {l m : List (El u4)} (h : l.Sublist m) : totF l ≤ totF m := by
 induction h with
 | slnil => exact Nat.le_refl _
 | cons a _ ih => simp only [totF]; omega
 | cons_cons a _ ih => simp only [totF]; omega
theorem DP.sub {room : Int} {l m : List (El u4)} (h : DP room m) (hs : l.Sublist m) : DP room l := by
 have h1 := totF_sub hs
 have h2 := hs.length_le
 have h3 := h.tot
 have h4 := h.len
 exact ⟨h.rm, by omega, by omega, fun f hf => h.name f (hs.subset hf), h.rise.sublist hs, fun f hf => h.sure f (hs.subset hf)⟩
theorem v82 (l : List (El u4)) : ∀ (m j : Nat), (∀ i, j ≤ i → i < j + m → fOK l i = true) → u4b l m j = true
 | 0, _, _ => rfl
 | m + 1, j, h => by
  simp only [u4b]
  rw [h j (Nat.le_refl _) (by omega), v82 l m (j + 1) fun i h1 h2 => h i (by omega) (by omega)]
  rfl
theorem DP.ok {room : Int} {l : List (El u4)} (h : DP room l) : dOK room l = true := by
 have hk := h.dk
 unfold dOK
 rw [ud h.rm.1, ud h.rm.2, ud h.len, ud h.tot, v82 l _ 0 fun i _ hi => ?_]
 ·rfl
 ·have hi : i < l.length := by omega
  unfold fOK
  rw [u1b (k := u4) hi, hk.name i hi, ud (hk.sure i hi).1, ud (hk.sure i hi).2, Bool.true_and, Bool.and_self, Bool.and_true]
  by_cases h0 : i = 0
  ·rw [ud h0, Bool.true_or]
  ·rw [u1b (k := u4) (show i - 1 < l.length by omega)]
   have := hk.rise (i - 1) (by omega)
   simp only [show i - 1 + 1 = i by omega] at this
   rw [this, Bool.or_true]
theorem u93 (n : Nat) (h : n ≤ 99) : IsBytes [(115 : Int), 48 + (n : Int) / 10, 48 + (n : Int) % 10] := by
 intro y hy
 simp only [List.mem_cons, List.not_mem_nil, or_false] at hy
 rcases hy with rfl | rfl | rfl <;> omega
theorem u7b (n : Nat) (h : n ≤ 99) : segB (nmV n) = (n : Int) := by
 unfold segB nmV
 rw [u1d (u93 n h)]
 have d1 : digB (48 + (n : Int) / 10) = true := by unfold digB; rw [ud (by omega), ud (by omega)]; rfl
 have d2 : digB (48 + (n : Int) % 10) = true := by unfold digB; rw [ud (by omega), ud (by omega)]; rfl
 show cond ((115 : Int) == 115 && (digB (48 + (n : Int) / 10) && digB (48 + (n : Int) % 10))) ((48 + (n : Int) / 10 - 48) * 10 + (48 + (n : Int) % 10 - 48)) 0 = n
 rw [d1, d2, show ((115 : Int) == 115) = true from rfl, Bool.and_self, Bool.and_self, ct]
 omega
def Fr1 (d : List Int) : Prop := IsBytes d ∧ 1 ≤ d.length ∧ d.length ≤ 200
theorem w66 (d r : List Int) : (frL d ++ r).take 2 = beL d.length 2 := by
 have e : frL d ++ r = beL d.length 2 ++ (beL (crcV (beL d.length 2 ++ d)) 4 ++ (d ++ r)) := by simp only [frL, List.append_assoc]
 rw [e]
 exact List.take_left' (u14 _ _)
theorem frL_six (d r : List Int) : (frL d ++ r).drop 6 = d ++ r := by
 have e : frL d ++ r = (beL d.length 2 ++ beL (crcV (beL d.length 2 ++ d)) 4) ++ (d ++ r) := by simp only [frL, List.append_assoc]
 rw [e]
 exact List.drop_left' (by rw [List.length_append, u14, u14])
theorem w2b {d : List Int} (h : Fr1 d) : beN 0 (beL d.length 2) = (d.length : Int) := ub0 _ 2 (by omega) (by have := h.2.2; omega)
theorem w48 {d : List Int} (h : Fr1 d) (r : List Int) : frAt (frL d ++ r) = (d, 0) := by
 obtain ⟨h0, h1, h2⟩ := h
 have hl : (frL d ++ r).length = 6 + d.length + r.length := by rw [List.length_append, u34]
 unfold frAt
 rw [if_neg (by omega), w66, w2b ⟨h0, h1, h2⟩, if_neg (fun h => h ⟨by omega, by omega⟩), Int.toNat_natCast, if_neg (by omega), frL_six, List.take_left' rfl, List.take_left' (u34 d), if_pos rfl]
theorem w49 {d : List Int} (h : Fr1 d) {p : Nat} (hp : p < (frL d).length) : frAt ((frL d).take p) = ([], 16) := by
 obtain ⟨h0, h1, h2⟩ := h
 rw [u34] at hp
 have hl : ((frL d).take p).length = p := by rw [List.length_take, u34]; omega
 unfold frAt
 by_cases h6 : p < 6
 ·rw [if_pos (by omega)]
 ·have e2 : ((frL d).take p).take 2 = beL d.length 2 := by
   rw [List.take_take, Nat.min_eq_left (by omega)]
   have := w66 d []
   rwa [List.append_nil] at this
  rw [if_neg (by omega), e2, w2b ⟨h0, h1, h2⟩, if_neg (fun h => h ⟨by omega, by omega⟩), Int.toNat_natCast, if_pos (by omega)]
def recs (ds : List (List Int)) : List Int := (ds.map frL).flatten
theorem u3b : recs [] = [] := rfl
theorem u31 (d : List Int) (ds : List (List Int)) : recs (d :: ds) = frL d ++ recs ds := rfl
theorem u90 (a b : List (List Int)) : recs (a ++ b) = recs a ++ recs b := by
 unfold recs
 rw [List.map_append, List.flatten_append]
theorem uae {ds : List (List Int)} (h : ∀ d ∈ ds, Fr1 d) : IsBytes (recs ds) := by
 induction ds with
 | nil => exact IsBytes.nil
 | cons d ds ih => exact (ucc (h d (by simp)).1).append (ih fun x hx => h x (by simp [hx]))
theorem v3e {ds : List (List Int)} : ds.length ≤ (recs ds).length := by
 induction ds with
 | nil => exact Nat.le_refl _
 | cons d ds ih =>
  rw [u31, List.length_append, u34, List.length_cons]
  omega
theorem frs_nil0 (m : Nat) : frs m [] = ([], 0, 0) := by
 cases m with
 | zero => rfl
 | succ m => rfl
theorem vb5 : ∀ (ds : List (List Int)) (m : Nat) (r : List Int), (∀ d ∈ ds, Fr1 d) → ds.length ≤ m →
  frs m (recs ds ++ r) = (ds.map strL ++ (frs (m - ds.length) r).1, (recs ds).length + (frs (m - ds.length) r).2.1, (frs (m - ds.length) r).2.2)
 | [], m, r, _, _ => by simp [u3b]
 | d :: ds, 0, r, _, h => by simp at h
 | d :: ds, m + 1, r, hd, h => by
  rw [List.length_cons] at h
  have e : frAt (recs (d :: ds) ++ r) = (d, 0) := by
   rw [u31, List.append_assoc]
   exact w48 (hd d (by simp)) _
  have el : (recs (d :: ds) ++ r).length ≠ 0 := by
   rw [u31, List.length_append, List.length_append, u34]
   omega
  have ed : (recs (d :: ds) ++ r).drop (6 + d.length) = recs ds ++ r := by
   rw [u31, List.append_assoc]
   exact List.drop_left' (u34 d)
  rw [frs, if_neg el, e]
  dsimp only
  rw [if_pos rfl, ed, vb5 ds m r (fun x hx => hd x (by simp [hx])) (by omega)]
  dsimp only
  rw [u31, List.length_append, u34, List.length_cons, List.map_cons, List.cons_append, Nat.add_sub_add_right]
  simp only [Nat.add_assoc]
theorem v97 {ds : List (List Int)} (h : ∀ d ∈ ds, Fr1 d) : frT (recs ds) = (ds.map strL, ((recs ds).length : Int), 0) := by
 unfold frT
 have e := vb5 ds (recs ds).length [] h v3e
 rw [List.append_nil, frs_nil0] at e
 rw [e]
 simp
theorem frT_part {ds : List (List Int)} (h : ∀ d ∈ ds, Fr1 d) {d : List Int} (hd : Fr1 d) {p : Nat} (h0 : 0 < p) (hp : p < (frL d).length) : frT (recs ds ++ (frL d).take p) = (ds.map strL, ((recs ds).length : Int), 16) := by
 have hl : ((frL d).take p).length = p := by rw [List.length_take]; omega
 have hL : (recs ds ++ (frL d).take p).length = (recs ds).length + p := by rw [List.length_append, hl]
 have hr := v3e (ds := ds)
 have e := vb5 ds ((recs ds).length + p) ((frL d).take p) h (by omega)
 obtain ⟨q, hq⟩ : ∃ q, (recs ds).length + p - ds.length = q + 1 := ⟨(recs ds).length + p - ds.length - 1, by omega⟩
 rw [hq, frs, if_neg (by omega), w49 hd hp] at e
 dsimp only at e
 rw [if_neg (by decide)] at e
 unfold frT
 rw [hL, e]
 simp
theorem vcd : ∀ (ds : List (List Int)) (p : Nat), p ≤ (recs ds).length →
  ∃ j, j ≤ ds.length ∧ (recs (ds.take j)).length ≤ p ∧ ((recs (ds.take j)).length = p ∧ (recs ds).take p = recs (ds.take j) ∨
   ∃ (hj : j < ds.length), (recs (ds.take j)).length < p ∧ p < (recs (ds.take (j + 1))).length ∧ p - (recs (ds.take j)).length < (frL ds[j]).length ∧ (recs ds).take p = recs (ds.take j) ++ (frL ds[j]).take (p - (recs (ds.take j)).length))
 | [], p, h => ⟨0, Nat.le_refl _, by simp [u3b], .inl ⟨by simp [u3b] at h ⊢; omega, by simp [u3b]⟩⟩
 | d :: ds, p, h => by
  rw [u31, List.length_append] at h
  rcases Nat.lt_or_ge p (frL d).length with hlt | hge
  ·by_cases h0 : p = 0
   ·subst h0
    exact ⟨0, Nat.zero_le _, by simp [u3b], .inl ⟨by simp [u3b], by simp [u3b]⟩⟩
   ·refine ⟨0, Nat.zero_le _, by simp [u3b], .inr ⟨by simp, by simp [u3b]; omega, by simp [u31, u3b]; exact hlt, by simp [u3b]; exact hlt, ?_⟩⟩
    simp only [List.take_zero, u3b, List.length_nil, Nat.sub_zero, List.nil_append, List.getElem_cons_zero, u31]
    exact List.take_append_of_le_length (by omega)
  ·obtain ⟨j, h1, h2, h3⟩ := vcd ds (p - (frL d).length) (by omega)
   have et : ∀ i, recs ((d :: ds).take (i + 1)) = frL d ++ recs (ds.take i) := fun i => rfl
   have ep : (recs (d :: ds)).take p = frL d ++ (recs ds).take (p - (frL d).length) := by
    rw [u31, List.take_append, List.take_of_length_le hge]
   refine ⟨j + 1, by rw [List.length_cons]; omega, by rw [et, List.length_append]; omega, ?_⟩
   rcases h3 with ⟨h4, h5⟩ | ⟨hj, h4, h5, h6, h7⟩
   ·exact .inl ⟨by rw [et, List.length_append]; omega, by rw [ep, h5, et]⟩
   ·refine .inr ⟨by rw [List.length_cons]; omega, by rw [et, List.length_append]; omega, by rw [et, List.length_append]; omega, ?_, ?_⟩
    ·rw [et, List.length_append, List.getElem_cons_succ]
     omega
    ·rw [ep, h7, et, List.length_append, List.getElem_cons_succ, List.append_assoc, Nat.sub_sub]
theorem v88 (ds : List (List Int)) {i j : Nat} (h : i ≤ j) : (recs (ds.take i)).length ≤ (recs (ds.take j)).length := by
 have e : ds.take j = ds.take i ++ (ds.take j).drop i := by
  conv => lhs; rw [← List.take_append_drop i (ds.take j)]
  rw [List.take_take, Nat.min_eq_left h]
 rw [e, u90, List.length_append]
 omega
def Rec1 (r : ByteArray) : Prop := 1 ≤ r.size ∧ r.size ≤ 110
def segD (F : Nat) (g : List ByteArray) : List (List Int) := beL F 4 :: g.map bytesL
def segF (n F : Nat) (g : List ByteArray) (sure : Int) : El u4 := (nmV n, (strL (recs (segD F g)), sure))
abbrev Gs := List (List ByteArray × Int)
def logF : Nat → Nat → Gs → List (El u4)
 | _, _, [] => []
 | n, F, g :: gs => segF n F g.1 g.2 :: logF (n + 1) (F + g.1.length) gs
def allR (gs : Gs) : List ByteArray := (gs.map Prod.fst).flatten
def nms (n : Nat) : Nat → List ByteArray
 | 0 => []
 | m + 1 => nmV n :: nms (n + 1) m
def ue4 (gs : Gs) : Prop := ∀ g ∈ gs, ∀ r ∈ g.1, Rec1 r
theorem u55 (g : List ByteArray × Int) (gs : Gs) : allR (g :: gs) = g.1 ++ allR gs := rfl
theorem u23 (a b : Gs) : allR (a ++ b) = allR a ++ allR b := by
 unfold allR
 rw [List.map_append, List.flatten_append]
theorem u26 : ∀ (gs : Gs) (n F : Nat), (logF n F gs).length = gs.length
 | [], _, _ => rfl
 | g :: gs, n, F => by simp only [logF, List.length_cons, u26 gs]
theorem u2c : ∀ (a b : Gs) (n F : Nat), logF n F (a ++ b) = logF n F a ++ logF (n + a.length) (F + (allR a).length) b
 | [], b, n, F => by simp [logF, allR]
 | g :: a, b, n, F => by
  rw [List.cons_append, logF, logF, u2c a b, List.cons_append, u55, List.length_append, List.length_cons, Nat.add_assoc, Nat.add_comm 1, Nat.add_assoc F]
theorem v13 : ∀ (m n : Nat), (nms n m).length = m
 | 0, _ => rfl
 | m + 1, n => by rw [nms, List.length_cons, v13 m]
theorem w8b (F : Nat) {g : List ByteArray} (h : ∀ r ∈ g, Rec1 r) : ∀ d ∈ segD F g, Fr1 d := by
 intro d hd
 rcases List.mem_cons.1 hd with rfl | hd
 ·exact ⟨u25 _ _, by rw [u14]; decide, by rw [u14]; decide⟩
 ·obtain ⟨r, hr, rfl⟩ := List.mem_map.1 hd
  have := h r hr
  exact ⟨IsBytes.bytesL r, by rw [u13]; exact this.1, by rw [u13]; have := this.2; omega⟩
theorem vc7 (g : List ByteArray) : (g.map bytesL).map strL = g := by
 rw [List.map_map]
 conv => rhs; rw [← List.map_id g]
 congr 1
 funext x
 exact u1e x
theorem segD_str (F : Nat) (g : List ByteArray) : (segD F g).map strL = strL (beL F 4) :: g := by
 rw [segD, List.map_cons, vc7]
theorem frF_recs {ds : List (List Int)} (h : ∀ d ∈ ds, Fr1 d) (nm : ByteArray) (s : Int) : frF (nm, (strL (recs ds), s)) = (ds.map strL, ((recs ds).length : Int), 0) := by
 unfold frF
 rw [u1d (uae h), v97 h]
theorem vba (n F : Nat) {g : List ByteArray} (h : ∀ r ∈ g, Rec1 r) (s : Int) : frF (segF n F g s) = (strL (beL F 4) :: g, ((recs (segD F g)).length : Int), 0) := by
 unfold segF
 rw [frF_recs (w8b F h), segD_str]
theorem w67 {n F : Nat} {g : List ByteArray} (hg : ∀ r ∈ g, Rec1 r) (hn : n ≤ 99) (hF : F < 4294967296) (s : Int) (fs : List (El u4)) (last F0 : Int) (R N : List ByteArray) (T : Int)
  (h : N.isEmpty = true ∨ N.isEmpty = false ∧ last + 1 = n ∧ (F : Int) = F0 + (R.length : Int)) :
  wGo (segF n F g s :: fs) last F0 R N T = wGo fs n (cond N.isEmpty (F : Int) F0) (R ++ g) (N ++ [nmV n]) 0 := by
 have hh : beN 0 (bytesL (strL (beL (F : Int) 4))) = (F : Int) := by
  rw [u1d (u25 _ _)]
  exact ub0 _ 4 (by omega) (by omega)
 have hs : ((strL (beL (F : Int) 4)).size : Int) = 4 := by rw [u11, u14]; rfl
 have hc : cW F0 R N last (segF n F g s) fs.isEmpty = 0 := by
  unfold cW
  rw [vba n F hg s]
  dsimp only
  rw [show ((0 : Int) != 0) = false from rfl, Bool.false_and, cf, show segB (segF n F g s).1 = (n : Int) from u7b n hn, List.isEmpty_cons, List.headD_cons, hs, hh]
  rcases h with h | ⟨h, h1, h2⟩
  ·rw [h]; rfl
  ·rw [h, h1, h2]; simp
 have hf : fW F0 N (segF n F g s) = cond N.isEmpty (F : Int) F0 := by
  unfold fW
  rw [vba n F hg s]
  dsimp only
  rw [List.isEmpty_cons, Bool.false_or, List.headD_cons, hh]
  cases N.isEmpty <;> rfl
 conv => lhs; rw [wGo]
 rw [hc, show ((0 : Int) != 0) = false from rfl, cf, hf, show segB (segF n F g s).1 = (n : Int) from u7b n hn, vba n F hg s]
 dsimp only
 rw [List.tail_cons, show ByteArray.size (segF n F g s).2.1 = (recs (segD F g)).length from u11 _, Int.sub_self]
 rfl
theorem w5b : ∀ (gs : Gs) (n F : Nat), ue4 gs → n + gs.length ≤ 100 → F + (allR gs).length < 4294967296 → ∀ (fs : List (El u4)) (last F0 : Int) (R N : List ByteArray), N.isEmpty = false → last + 1 = n → (F : Int) = F0 + (R.length : Int) →
  wGo (logF n F gs ++ fs) last F0 R N 0 = wGo fs (last + gs.length) F0 (R ++ allR gs) (N ++ nms n gs.length) 0
 | [], n, F, _, _, _, fs, last, F0, R, N, _, _, _ => by simp [logF, allR, nms]
 | g :: gs, n, F, hr, hn, hF, fs, last, F0, R, N, hN, hl, hf => by
  rw [List.length_cons] at hn
  rw [u55, List.length_append] at hF
  rw [logF, List.cons_append, w67 (fun r h => hr g (by simp) r h) (by omega) (by omega) g.2 _ last F0 R N 0 (.inr ⟨hN, hl, hf⟩), hN, cf,
   w5b gs (n + 1) (F + g.1.length) (fun x hx => hr x (by simp [hx])) (by omega) (by omega) fs n F0 (R ++ g.1) (N ++ [nmV n]) (by simp) (by omega) (by rw [List.length_append]; omega),
   u55, List.append_assoc, List.append_assoc, List.length_cons, nms, List.singleton_append]
  congr 1
  omega
theorem vd0 (gs : Gs) (n F : Nat) (hr : ue4 gs) (hn : n + gs.length ≤ 100) (hF : F + (allR gs).length < 4294967296) (hg : gs ≠ []) (fs : List (El u4)) :
  wGo (logF n F gs ++ fs) 0 0 [] [] 0 = wGo fs ((n : Int) + gs.length - 1) F (allR gs) (nms n gs.length) 0 := by
 cases gs with
 | nil => exact absurd rfl hg
 | cons g gs =>
  rw [List.length_cons] at hn
  rw [u55, List.length_append] at hF
  rw [logF, List.cons_append, w67 (fun r h => hr g (by simp) r h) (by omega) (by omega) g.2 _ 0 0 [] [] 0 (.inl rfl), List.isEmpty_nil, ct,
   w5b gs (n + 1) (F + g.1.length) (fun x hx => hr x (by simp [hx])) (by omega) (by omega) fs n F ([] ++ g.1) ([] ++ [nmV n]) (by simp) (by omega) (by simp),
   u55, List.nil_append, List.length_cons, nms, List.nil_append, List.singleton_append]
  congr 1
  omega
theorem u4e : ∀ (gs : Gs) (n F : Nat) (f : El u4), f ∈ logF n F gs → ∃ i F' g, n ≤ i ∧ i < n + gs.length ∧ g ∈ gs ∧ f = segF i F' g.1 g.2
 | g :: gs, n, F, f, h => by
  rw [logF] at h
  rcases List.mem_cons.1 h with rfl | h
  ·exact ⟨n, F, g, Nat.le_refl _, by rw [List.length_cons]; omega, by simp, rfl⟩
  ·obtain ⟨i, F', g', h1, h2, h3, h4⟩ := u4e gs (n + 1) (F + g.1.length) f h
   exact ⟨i, F', g', by omega, by rw [List.length_cons]; omega, by simp [h3], h4⟩
theorem vf2 {l : List (El u4)} (h : ∀ f ∈ l, 0 < segB f.1) : segs l = l := by
 unfold segs
 rw [List.filter_eq_self]
 exact fun f hf => decide_eq_true (h f hf)
theorem uc4 (gs : Gs) (n F : Nat) (h0 : 1 ≤ n) (hn : n + gs.length ≤ 100) : segs (logF n F gs) = logF n F gs := by
 refine vf2 fun f hf => ?_
 obtain ⟨i, F', g, h1, h2, _, rfl⟩ := u4e gs n F f hf
 rw [show segB (segF i F' g.1 g.2).1 = (i : Int) from u7b i (by omega)]
 omega
theorem wV_log (gs : Gs) (n F : Nat) (hr : ue4 gs) (h0 : 1 ≤ n) (hn : n + gs.length ≤ 100) (hF : F + (allR gs).length < 4294967296) (hg : gs ≠ []) : wV (logF n F gs) = ((F : Int), allR gs, nms n gs.length, 0, 0) := by
 unfold wV
 rw [uc4 gs n F h0 hn]
 have e := vd0 gs n F hr hn hF hg []
 rw [List.append_nil] at e
 rw [e]
 rfl
def insF (f : El u4) : List (El u4) → List (El u4)
 | [] => [f]
 | g :: r => if sLt g.1 f.1 = true then g :: insF f r else f :: g :: r
theorem v3b : ∀ {l : List (El u4)} {f : El u4} {p : Nat}, Pos l f.1 p → insF f l = l.take p ++ f :: l.drop p
 | [], f, p, h => by
  have := h.le
  simp at this
  subst this
  rfl
 | g :: r, f, p, h => by
  unfold insF
  cases p with
  | zero =>
   have := h.hi 0 (by simp) (Nat.le_refl _)
   rw [List.getElem_cons_zero] at this
   rw [if_neg (by rw [this]; decide)]
   rfl
  | succ p =>
   have := h.lo 0 (by simp) (by omega)
   rw [List.getElem_cons_zero] at this
   rw [if_pos this, v3b (l := r) (p := p) ⟨by have := h.le; simp at this; exact this, fun q hq hlt => by
    have := h.lo (q + 1) (by simp; exact hq) (by omega)
    rwa [List.getElem_cons_succ] at this, fun q hq hle => by
    have := h.hi (q + 1) (by simp; exact hq) (by omega)
    rwa [List.getElem_cons_succ] at this⟩]
   rfl
theorem app_at_i {room : Int} {l : List (El u4)} (h : DK room l) {k : Nat} (hk : k < l.length) (data : ByteArray) (hd : data.size ≤ 1000000) :
  gq104 room l l[k].1 data = some (cond (decide ((data.size : Int) > room - totF l)) (7, room, l) (0, room, l.set k (l[k].1, (l[k].2.1 ++ data, l[k].2.2)))) := by
 have hl := h.len
 have ht := h.tot
 have hr := h.rm
 have hsz := h.data (List.getElem_mem hk)
 unfold gq104 gq104.F gq104.j2 gq104.j1
 rw [u52 h hk, bs, vab _ (h.fit _ (List.getElem_mem hk)), bs, h.name k hk]
 dsimp only
 rw [Bool.not_true, cf, cf, vaa room l (by omega) (by omega), bs, wr (by omega) (by omega)]
 cases decide ((data.size : Int) > room - totF l) with
 | true => rfl
 | false =>
  rw [cf, cf, u10 (u17 (by omega) (by omega)), Int.toNat_natCast, u1b (k := u4) hk, u10 (u43 (by omega)), u10 (u17 (by omega) (by omega))]
  rfl
theorem w1c {l : List (El u4)} {name : ByteArray} (ha : ∀ f ∈ l, f.1 ≠ name) (p : Nat) : (match l[p]? with | some f => decide (f.1 = name) | none => false) = false := by
 cases hp : l[p]? with
 | none => rfl
 | some f => exact uf (ha f (List.mem_of_getElem? hp))
theorem w2d {room : Int} {l : List (El u4)} (h : DK room l) {name : ByteArray} (hn : u68 name = true) (ha : ∀ f ∈ l, f.1 ≠ name) (data : ByteArray) (hd : data.size ≤ 1000000) :
  gq104 room l name data = some (cond ((l.length : Int) == 8 || decide ((data.size : Int) > room - totF l)) (7, room, l) (0, room, insF (name, (data, 0)) l)) := by
 have hl := h.len
 have ht := h.tot
 have hr := h.rm
 have hns := u51 hn
 obtain ⟨p, e0, hp⟩ := uc6 room l (by omega) h.Rise name
 have e : gq76 room l name = some ((p : Int), false) := e0.trans (congrArg (fun b => some ((p : Int), b)) (w1c ha p))
 have hpl := hp.le
 unfold gq104 gq104.F gq104.j2 gq104.j1
 rw [e, bs, vab _ (by omega), bs, hn]
 dsimp only
 rw [Bool.not_true, cf, Bool.not_false, ct, ct]
 cases ((l.length : Int) == 8) with
 | true => rfl
 | false =>
  rw [cf, vaa room l (by omega) (by omega), bs, wr (by omega) (by omega), Bool.false_or]
  cases decide ((data.size : Int) > room - totF l) with
  | true => rfl
  | false =>
   rw [cf, cf]
   unfold gq149 gq149.F
   rw [ud (by omega), ud (by omega), ud (by simp), ud (by simp; omega), Bool.and_self, Bool.and_self, Bool.and_self, grd_t, bs, Int.toNat_natCast]
   have hlen : (l.take p ++ [(name, (ByteArray.empty, (0 : Int)))] ++ l.drop p : List (El u4)).length = l.length + 1 := by simp; omega
   have hget : rdE u4 (l.take p ++ [(name, (ByteArray.empty, (0 : Int)))] ++ l.drop p) p = (name, (ByteArray.empty, (0 : Int))) := by
    rw [u1b (k := u4) (by omega), List.getElem_append_left (by simp; omega), List.getElem_append_right (by simp; omega)]
    simp
   rw [u10 (u17 (by omega) (by omega)), hget]
   dsimp only
   rw [u10 (u43 (by simp; omega)), u10 (u17 (by omega) (by omega)), v3b (f := (name, (data, (0 : Int)))) hp]
   have hset : setE u4 (l.take p ++ [(name, (ByteArray.empty, (0 : Int)))] ++ l.drop p) p (name, (ByteArray.empty ++ data, (0 : Int))) = l.take p ++ (name, (data, (0 : Int))) :: l.drop p := by
    rw [w84, List.append_assoc, List.set_append_right _ _ (by simp; omega), List.length_take, Nat.min_eq_left hpl, Nat.sub_self]
    rw [ByteArray.empty_append]
    rfl
   rw [hset]
   rfl
theorem vae {room : Int} {l : List (El u4)} (hl : l.length ≤ 1000000) {name : ByteArray} (ha : ∀ f ∈ l, f.1 ≠ name) : gq124 room l name = some (-1) := by
 rw [v9b room l (by omega), show l.findIdx? (fun f => sEq f.1 name) = none from List.findIdx?_eq_none_iff.2 fun f hf => by rw [u56]; exact uf (ha f hf)]
theorem put_new (room : Int) (l : List (El u4)) (hl : l.length ≤ 1000000) (hr : Rise l) (f f1 : ByteArray) (f2 : Int) {p : Nat} (hp : Pos l f p) (ha : ∀ g ∈ l, g.1 ≠ f) : gq125 room l f f1 f2 = some (room, l.take p ++ (f, (f1, f2)) :: l.drop p) := by
 unfold gq125 gq125.F
 have hpl := hp.le
 have key : ∀ (m fu i : Nat), i + m = p → l.length < fu + i → gq125.l2 (fun put f f1 f2 i out l =>
  cond (!put) (
   grd (gRm (((List.length l) + (List.length [(f, (f1, f2))])) * 40)) <|
   some (out, l ++ [(f, (f1, f2))])) (some (out, l))) fu false (i : Int) room l f f1 f2 0 room (l.take i) = some (room, l.take p ++ (f, (f1, f2)) :: l.drop p) := by
  intro m
  induction m with
  | zero =>
   intro fu i e hf
   obtain rfl : i = p := by omega
   obtain ⟨fu, rfl⟩ : ∃ q, fu = q + 1 := ⟨fu - 1, by omega⟩
   simp only [gq125.l2, gq125.j1]
   by_cases hi : i < l.length
   ·have h1 := hp.hi i hi (Nat.le_refl _)
    rw [ud (by omega), ct, Bool.not_false, ct, u10 (u17 (by omega) (by omega)), Int.toNat_natCast, u1b (k := u4) hi, h1, Bool.not_false, ct, u10 (u28 (by simp; omega)), u10 (u17 (by omega) (by omega)), u56, uf (ha _ (List.getElem_mem hi)), Bool.not_false, ct, u10 (u17 (by omega) (by omega)), u10 (u28 (by simp; omega)), wr (by omega) (by omega), show ((i : Int) + 1) = ((i + 1 : Nat) : Int) by omega]
    rw [put2 (k := i) _ room l hl f f1 f2 (fun q hq _ => ha _ (List.getElem_mem hq)) (l.length - (i + 1)) fu (i + 1) _ (by omega) (by omega) (by omega) (by simp; omega)]
    rw [Bool.not_true, cf, u18 hi, List.append_assoc, List.append_assoc]
    rfl
   ·rw [uf (by omega), cf, Bool.not_false, ct, u10 (u28 (by simp; omega)), List.drop_eq_nil_of_le (by omega)]
  | succ m ih =>
   intro fu i e hf
   obtain ⟨fu, rfl⟩ : ∃ q, fu = q + 1 := ⟨fu - 1, by omega⟩
   have hi : i < l.length := by omega
   have h1 := hp.lo i hi (by omega)
   simp only [gq125.l2, gq125.j1]
   rw [ud (by omega), ct, Bool.not_false, ct, u10 (u17 (by omega) (by omega)), Int.toNat_natCast, u1b (k := u4) hi, h1, Bool.not_true, cf, u10 (u17 (by omega) (by omega)), u56, uf (ufc h1), Bool.not_false, ct, u10 (u17 (by omega) (by omega)), u10 (u28 (by simp; omega)), wr (by omega) (by omega), show ((i : Int) + 1) = ((i + 1 : Nat) : Int) by omega, ← u81 hi]
   exact ih fu (i + 1) (by omega) (by omega)
 have := key p fuel 0 (by omega) (by have := u1c (n := l.length) (by omega); omega)
 rw [Int.natCast_zero, List.take_zero] at this
 exact this
theorem v9a {room : Int} {l : List (El u4)} (h : DK room l) {k : Nat} (hk : k < l.length) (N : Int) (data b : ByteArray) (c : List Int) (hd : data.size ≤ 1000000) :
  gq74 room l 1 N l[k].1 b data c = some (room, cond (decide ((data.size : Int) > room - totF l)) (l, 7) (l.set k (l[k].1, (l[k].2.1 ++ data, l[k].2.2)), 0)) := by
 have hl := h.len
 have ht := h.tot
 have hr := h.rm
 have hsz := h.data (List.getElem_mem hk)
 unfold gq74 gq74.F gq74.j1
 rw [show ((1 : Int) == 1) = true from rfl, ct]
 unfold gq122 gq122.F gq122.j1 gq122.j2
 rw [v10 h hk, bs, v90 _ (h.fit _ (List.getElem_mem hk)), bs, h.name k hk, Bool.not_true, cf, uf (by omega), cf]
 dsimp only
 rw [cf, v99 room l (by omega) (by omega), bs, wr (by omega) (by omega), show decide ((totF l : Int) + (data.size : Int) > room) = decide ((data.size : Int) > room - totF l) by rw [decide_eq_decide]; omega]
 cases decide ((data.size : Int) > room - totF l) with
 | true => rfl
 | false =>
  rw [cf, cf, ud (by omega), ct, u10 (u17 (by omega) (by omega)), Int.toNat_natCast, u1b (k := u4) hk, u10 (u43 (by omega)), put_s room l (by omega) h.Rise _ _ _ k hk rfl, bs]
  rfl
theorem v5f {room : Int} {l : List (El u4)} (h : DK room l) {name : ByteArray} (hn : u68 name = true) (ha : ∀ f ∈ l, f.1 ≠ name) (N : Int) (data b : ByteArray) (c : List Int) (hd : data.size ≤ 1000000) :
  gq74 room l 1 N name b data c = some (room, cond ((l.length : Int) == 8 || decide ((data.size : Int) > room - totF l)) (l, 7) (insF (name, (data, 0)) l, 0)) := by
 have hl := h.len
 have ht := h.tot
 have hr := h.rm
 have hns := u51 hn
 obtain ⟨p, _, hp⟩ := uc6 room l (by omega) h.Rise name
 unfold gq74 gq74.F gq74.j1
 rw [show ((1 : Int) == 1) = true from rfl, ct]
 unfold gq122 gq122.F gq122.j1 gq122.j2
 rw [vae (by omega) ha, bs, v90 _ (by omega), bs, hn, Bool.not_true, cf, show decide ((-1 : Int) < 0) = true from rfl, ct]
 cases ((l.length : Int) == 8) with
 | true => rfl
 | false =>
  dsimp only
  rw [cf, Bool.false_or, v99 room l (by omega) (by omega), bs, wr (by omega) (by omega), show decide ((totF l : Int) + (data.size : Int) > room) = decide ((data.size : Int) > room - totF l) by rw [decide_eq_decide]; omega]
  cases decide ((data.size : Int) > room - totF l) with
  | true => rfl
  | false =>
   rw [cf, cf, show decide ((-1 : Int) ≥ 0) = false from rfl, cf, u10 (u43 (by simp; omega)), ByteArray.empty_append, put_new room l (by omega) h.Rise _ _ _ hp ha, bs, v3b (f := (name, (data, (0 : Int)))) hp]
   rfl
theorem do_sync {room : Int} {l : List (El u4)} (h : DK room l) {k : Nat} (hk : k < l.length) (N : Int) (a b : ByteArray) (c : List Int) : gq55 room l 2 N l[k].1 a b c = some (0, room, l.set k (l[k].1, (l[k].2.1, (ByteArray.size l[k].2.1 : Int)))) := by
 have hl := h.len
 unfold gq55 gq55.F
 rw [show ((2 : Int) == 1) = false from rfl, cf, show ((2 : Int) == 5) = false from rfl, cf, u2b, bs, show (decide ((2 : Int) ≤ 2) && decide ((2 : Int) ≤ 6)) = true from rfl, Bool.not_true, cf, u52 h hk, bs]
 dsimp only
 rw [Bool.not_true, cf, u10 (u17 (by omega) (by omega)), show ((2 : Int) == 2) = true from rfl, ct, Int.toNat_natCast, u1b (k := u4) hk]
 rfl
theorem w3e {room : Int} {l : List (El u4)} (h : DK room l) {k : Nat} (hk : k < l.length) (N : Int) (a b : ByteArray) (c : List Int) : gq74 room l 2 N l[k].1 a b c = some (room, l.set k (l[k].1, (l[k].2.1, (ByteArray.size l[k].2.1 : Int))), 0) := by
 have hl := h.len
 unfold gq74 gq74.F gq74.j1
 rw [show ((2 : Int) == 1) = false from rfl, cf, show ((2 : Int) == 5) = false from rfl, cf, show ((2 : Int) == 2) = true from rfl, ct]
 dsimp only
 rw [v10 h hk, bs, uf (by omega), cf, u10 (u17 (by omega) (by omega)), show ((2 : Int) == 2) = true from rfl, ct, Int.toNat_natCast, u1b (k := u4) hk, put_s room l (by omega) h.Rise _ _ _ k hk rfl, bs]
theorem do_app (room : Int) (l : List (El u4)) (N : Int) (name a data : ByteArray) (c : List Int) : gq55 room l 1 N name a data c = gq104 room l name data := by
 unfold gq55 gq55.F
 rw [show ((1 : Int) == 1) = true from rfl, ct]
 cases gq104 room l name data <;> rfl
theorem w23 : ∀ (S : List (El u4)) (last F : Int) (R N : List ByteArray) (T : Int), (wGo S last F R N T).2.2.2.2 = 0 →
  (wGo S last F R N T).2.2.1 = N ++ S.map (fun f => f.1) ∧ ∀ f ∈ S, (frF f).1.isEmpty = false → (ByteArray.size ((frF f).1.headD ByteArray.empty) : Int) = 4
 | [], last, F, R, N, T, _ => ⟨by simp [wGo], fun f hf => by simp at hf⟩
 | f :: S, last, F, R, N, T, h => by
  unfold wGo at h ⊢
  cases hc : cW F R N last f S.isEmpty != 0 with
  | true =>
   rw [hc, ct] at h
   have : cW F R N last f S.isEmpty ≠ 0 := by simpa using hc
   exact absurd h this
  | false =>
   rw [hc, cf] at h
   rw [cf]
   obtain ⟨h1, h2⟩ := w23 S _ _ _ _ _ h
   have h0 : cW F R N last f S.isEmpty = 0 := by simpa using hc
   refine ⟨by rw [h1]; simp, fun g hg => ?_⟩
   rcases List.mem_cons.1 hg with rfl | hg
   ·exact w44 h0
   ·exact h2 g hg
theorem mem_segs {l : List (El u4)} {f : El u4} (h : f ∈ segs l) : f ∈ l ∧ 0 < segB f.1 := by
 unfold segs at h
 rw [List.mem_filter, decide_eq_true_iff] at h
 exact h
def Small (p : List ByteArray) : Prop := p.length ≤ 100000000 ∧ ∀ s ∈ p, s.size ≤ 1000000
theorem Small.head {p : List ByteArray} (h : Small p) : (p.headD ByteArray.empty).size ≤ 1000000 := by
 cases p with
 | nil => exact Nat.zero_le _
 | cons x l => exact h.2 x (by simp)
theorem Small.drop {p : List ByteArray} (h : Small p) (n : Nat) : Small (p.drop n) := ⟨by have := h.1; simp; omega, fun s hs => h.2 s (List.mem_of_mem_drop hs)⟩
theorem v96 {α : Type} (q : α → Bool) (l : List α) : (!(l.any fun x => !q x)) = l.all q := by
 induction l with
 | nil => rfl
 | cons x l ih => rw [List.any_cons, List.all_cons, ← ih]; cases q x <;> simp
def isTx (t : ByteArray) : Bool := decide (t.size ≤ 65536)
theorem w34 (l : List ByteArray) (h : l.length ≤ 1000000000) : gq69 l = some (l.all isTx) := by
 unfold gq69 gq69.F gq117 gq117.F gq154 gq154.F
 have hq : ∀ x ∈ l, (fun x : ByteArray => (fun t : ByteArray × Unit => (gq118 t.1).bind fun a => some (a, ())) (x, ())) x = some (!isTx x, ()) := by
  intro x _
  have : decide ((x.size : Int) > 65536) = !isTx x := by
   rw [Bool.eq_iff_iff, decide_eq_true_iff, isTx, Bool.not_eq_true', decide_eq_false_iff_not]
   omega
  simp only [gq118, gq118.F, bs, this]
 have := u9a (k := .str) (L := gq154.l1 (fun t => (gq118 t.1).bind fun a => some (a, ())) (some (-1 : Int)) (fun i => some i)) (fun n s i j => rfl) (l := l) (by omega) hq l.length fuel 0 (by omega) (u1c (by omega))
 rw [Int.natCast_zero] at this
 rw [this, List.drop_zero, ← v96, ← u8d]
 cases l.findIdx? fun x => !isTx x with
 | none => rfl
 | some d => simp
def has (l : List (El u4)) (name : ByteArray) : Bool := l.any fun f => sEq f.1 name
def updF (name : ByteArray) (u : El u4 → El u4) (l : List (El u4)) : List (El u4) := l.map fun f => cond (sEq f.1 name) (u f) f
def addU (data : ByteArray) (f : El u4) : El u4 := (f.1, (f.2.1 ++ data, f.2.2))
def vf9 (f : El u4) : El u4 := (f.1, (f.2.1, (ByteArray.size f.2.1 : Int)))
def apV (room : Int) (l : List (El u4)) (name data : ByteArray) : Int × List (El u4) :=
 cond (has l name) (cond (decide ((data.size : Int) > room - totF l)) (7, l) (0, updF name (addU data) l))
  (cond ((l.length : Int) == 8 || decide ((data.size : Int) > room - totF l)) (7, l) (0, insF (name, (data, 0)) l))
def syV (l : List (El u4)) (name : ByteArray) : List (El u4) := updF name vf9 l
theorem v81 {l : List (El u4)} {name : ByteArray} (h : has l name = true) : ∃ (k : Nat) (hk : k < l.length), l[k].1 = name := by
 unfold has at h
 rw [List.any_eq_true] at h
 obtain ⟨f, hf, e⟩ := h
 obtain ⟨k, hk, rfl⟩ := List.getElem_of_mem hf
 exact ⟨k, hk, sEq_iff.1 e⟩
theorem vac {l : List (El u4)} {name : ByteArray} (h : has l name = false) : ∀ f ∈ l, f.1 ≠ name := fun f hf e => by
 unfold has at h
 rw [List.any_eq_false] at h
 exact h f hf (sEq_iff.2 e)
theorem ue5 {room : Int} {l : List (El u4)} (h : DK room l) {k : Nat} (hk : k < l.length) (u : El u4 → El u4) : updF l[k].1 u l = l.set k (u l[k]) := by
 unfold updF
 refine List.ext_getElem (by simp) fun i h1 h2 => ?_
 have hi : i < l.length := by simpa using h1
 rw [List.getElem_map, List.getElem_set]
 by_cases e : k = i
 ·subst e
  rw [u2f, ct, if_pos rfl]
 ·rw [if_neg e, u56, uf (fun e' => e (h.inj hk hi e'.symm)), cf]
theorem w8f {room : Int} {l : List (El u4)} (h : DK room l) {name : ByteArray} (hn : u68 name = true) (data : ByteArray) (hd : data.size ≤ 1000000) (N : Int) (b : ByteArray) (c : List Int) :
  gq55 room l 1 N name b data c = some ((apV room l name data).1, room, (apV room l name data).2) := by
 rw [do_app]
 unfold apV
 cases hh : has l name with
 | true =>
  obtain ⟨k, hk, rfl⟩ := v81 hh
  rw [app_at_i h hk data hd, ct, ue5 h hk]
  cases decide ((data.size : Int) > room - totF l) <;> rfl
 | false =>
  rw [w2d h hn (vac hh) data hd, cf]
  cases ((l.length : Int) == 8 || decide ((data.size : Int) > room - totF l)) <;> rfl
theorem w3b {room : Int} {l : List (El u4)} (h : DK room l) {name : ByteArray} (hn : u68 name = true) (data : ByteArray) (hd : data.size ≤ 1000000) (N : Int) (b : ByteArray) (c : List Int) :
  gq74 room l 1 N name b data c = some (room, (apV room l name data).2, (apV room l name data).1) := by
 unfold apV
 cases hh : has l name with
 | true =>
  obtain ⟨k, hk, rfl⟩ := v81 hh
  rw [v9a h hk N data b c hd, ct, ue5 h hk]
  cases decide ((data.size : Int) > room - totF l) <;> rfl
 | false =>
  rw [v5f h hn (vac hh) N data b c hd, cf]
  cases ((l.length : Int) == 8 || decide ((data.size : Int) > room - totF l)) <;> rfl
theorem w13 {room : Int} {l : List (El u4)} (h : DK room l) {name : ByteArray} (hh : has l name = true) (N : Int) (a b : ByteArray) (c : List Int) :
  gq55 room l 2 N name a b c = some (0, room, syV l name) := by
 obtain ⟨k, hk, rfl⟩ := v81 hh
 rw [do_sync h hk]
 unfold syV
 rw [ue5 h hk]
 rfl
theorem uf3 {room : Int} {l : List (El u4)} (h : DK room l) {name : ByteArray} (hh : has l name = true) (N : Int) (a b : ByteArray) (c : List Int) :
  gq74 room l 2 N name a b c = some (room, syV l name, 0) := by
 obtain ⟨k, hk, rfl⟩ := v81 hh
 rw [w3e h hk]
 unfold syV
 rw [ue5 h hk]
 rfl
theorem vcc (name : ByteArray) (u : El u4 → El u4) (hu : ∀ f, ByteArray.size (u f).2.1 = ByteArray.size f.2.1) : ∀ (l : List (El u4)), totF (updF name u l) = totF l
 | [] => rfl
 | f :: r => by
  show totF (cond (sEq f.1 name) (u f) f :: updF name u r) = _
  simp only [totF, vcc name u hu r]
  cases sEq f.1 name with
  | true => rw [ct, hu]
  | false => rw [cf]
theorem vc3 : ∀ (l : List (El u4)) (k : Nat) (hk : k < l.length) (f : El u4), totF (l.set k f) + ByteArray.size l[k].2.1 = totF l + ByteArray.size f.2.1
 | g :: r, 0, _, f => by
  rw [List.set_cons_zero, List.getElem_cons_zero]
  simp only [totF]
  omega
 | g :: r, k + 1, h, f => by
  have := vc3 r k (by simpa using h) f
  rw [List.set_cons_succ, List.getElem_cons_succ]
  simp only [totF]
  omega
theorem w73 (name : ByteArray) (u : El u4 → El u4) (hu : ∀ f, (u f).1 = f.1) (l : List (El u4)) : (updF name u l).map (fun f => f.1) = l.map fun f => f.1 := by
 unfold updF
 rw [List.map_map]
 congr 1
 funext f
 show (cond (sEq f.1 name) (u f) f).1 = f.1
 cases sEq f.1 name with
 | true => exact hu f
 | false => rfl
theorem DP.upd {room : Int} {l : List (El u4)} (h : DP room l) (name : ByteArray) (u : El u4 → El u4) (hu : ∀ f, (u f).1 = f.1) (hs : ∀ f, (0 : Int) ≤ f.2.2 ∧ (f.2.2 : Int) ≤ (ByteArray.size f.2.1 : Int) → (0 : Int) ≤ (u f).2.2 ∧ ((u f).2.2 : Int) ≤ (ByteArray.size (u f).2.1 : Int)) (ht : (totF (updF name u l) : Int) ≤ room) : DP room (updF name u l) := by
 have hlen : (updF name u l).length = l.length := by unfold updF; rw [List.length_map]
 have hn := w73 name u hu l
 refine ⟨h.rm, by rw [hlen]; exact h.len, ht, fun f hf => ?_, ?_, fun f hf => ?_⟩
 ·have : f.1 ∈ (updF name u l).map fun f => f.1 := List.mem_map.2 ⟨f, hf, rfl⟩
  rw [hn] at this
  obtain ⟨g, hg, e⟩ := List.mem_map.1 this
  rw [← e]
  exact h.name g hg
 ·have h1 := h.rise
  rw [← List.pairwise_map (f := fun f : El u4 => f.1) (R := fun a b => sLt a b = true)] at h1 ⊢
  rw [hn]
  exact h1
 ·unfold updF at hf
  obtain ⟨g, hg, rfl⟩ := List.mem_map.1 hf
  cases sEq g.1 name with
  | true => exact hs g (h.sure g hg)
  | false => exact h.sure g hg
theorem DP.sync {room : Int} {l : List (El u4)} (h : DP room l) (name : ByteArray) : DP room (syV l name) :=
 h.upd name vf9 (fun _ => rfl) (fun f _ => ⟨by show (0 : Int) ≤ (ByteArray.size f.2.1 : Int); omega, Int.le_refl _⟩) (by rw [vcc name vf9 (fun _ => rfl)]; exact h.tot)
theorem u6d : ∀ (a b : List (El u4)), totF (a ++ b) = totF a + totF b
 | [], b => by simp [totF]
 | f :: a, b => by
  rw [List.cons_append]
  simp only [totF, u6d a b]
  omega
theorem DP.ins {room : Int} {l : List (El u4)} (h : DP room l) {f : El u4} (hn : u68 f.1 = true) (ha : ∀ g ∈ l, g.1 ≠ f.1) (hs : (0 : Int) ≤ f.2.2 ∧ (f.2.2 : Int) ≤ (ByteArray.size f.2.1 : Int)) (hl : l.length ≠ 8) (ht : (ByteArray.size f.2.1 : Int) ≤ room - totF l) : DP room (insF f l) := by
 have h8 := h.len
 obtain ⟨p, _, hp⟩ := uc6 room l (by omega) h.dk.Rise f.1
 have hpl := hp.le
 rw [v3b hp]
 have hm : ∀ g, g ∈ l.take p ++ f :: l.drop p → g = f ∨ g ∈ l := by
  intro g hg
  rcases List.mem_append.1 hg with hg | hg
  ·exact .inr (List.mem_of_mem_take hg)
  ·rcases List.mem_cons.1 hg with rfl | hg
   ·exact .inl rfl
   ·exact .inr (List.mem_of_mem_drop hg)
 refine ⟨h.rm, by simp; omega, ?_, fun g hg => ?_, ?_, fun g hg => ?_⟩
 ·have e : totF l = totF (l.take p) + totF (l.drop p) := by rw [← u6d, List.take_append_drop]
  rw [u6d]
  simp only [totF]
  omega
 ·rcases hm g hg with rfl | hg
  ·exact hn
  ·exact h.name g hg
 ·rw [List.pairwise_append, List.pairwise_cons]
  have hlo : ∀ a ∈ l.take p, sLt a.1 f.1 = true := fun a ha' => by
   obtain ⟨i, hi, rfl⟩ := List.getElem_of_mem ha'
   rw [List.length_take] at hi
   rw [List.getElem_take]
   exact hp.lo i (by omega) (by omega)
  have hhi : ∀ b ∈ l.drop p, sLt f.1 b.1 = true := fun b hb => by
   obtain ⟨i, hi, rfl⟩ := List.getElem_of_mem hb
   rw [List.length_drop] at hi
   rw [List.getElem_drop]
   have h1 := hp.hi (p + i) (by omega) (by omega)
   cases h2 : sLt f.1 l[p + i].1 with
   | true => rfl
   | false => exact absurd (w35 h1 h2) (ha _ (List.getElem_mem _))
  refine ⟨h.rise.sublist (List.take_sublist _ _), ⟨hhi, h.rise.sublist (List.drop_sublist _ _)⟩, fun a ha' b hb => ?_⟩
  rcases List.mem_cons.1 hb with rfl | hb
  ·exact hlo a ha'
  ·exact u80 (hlo a ha') (hhi b hb)
 ·rcases hm g hg with rfl | hg
  ·exact hs
  ·exact h.sure g hg
theorem DP.ap {room : Int} {l : List (El u4)} (h : DP room l) {name : ByteArray} (hn : u68 name = true) (data : ByteArray) (h0 : (apV room l name data).1 = 0) : DP room (apV room l name data).2 := by
 unfold apV at h0 ⊢
 cases hh : has l name with
 | true =>
  rw [hh, ct] at h0
  rw [ct]
  cases hc : decide ((data.size : Int) > room - totF l) with
  | true => rw [hc, ct] at h0; cases h0
  | false =>
   rw [cf]
   have hc := of_decide_eq_false hc
   refine h.upd name (addU data) (fun _ => rfl) (fun f hf => ⟨hf.1, ?_⟩) ?_
   ·refine Int.le_trans hf.2 ?_
    have h2 : ByteArray.size (addU data f).2.1 = ByteArray.size f.2.1 + data.size := ByteArray.size_append
    rw [h2]
    omega
   ·obtain ⟨k, hk, rfl⟩ := v81 hh
    rw [ue5 h.dk hk]
    have := vc3 l k hk (addU data l[k])
    have e : ByteArray.size (addU data l[k]).2.1 = ByteArray.size l[k].2.1 + data.size := ByteArray.size_append
    show (totF (l.set k (addU data l[k])) : Int) ≤ room
    omega
 | false =>
  rw [hh, cf] at h0
  rw [cf]
  cases hc : ((l.length : Int) == 8 || decide ((data.size : Int) > room - totF l)) with
  | true => rw [hc, ct] at h0; cases h0
  | false =>
   rw [cf]
   rw [Bool.or_eq_false_iff] at hc
   have h1 : ¬ (l.length : Int) = 8 := by simpa using hc.1
   have h2 := of_decide_eq_false hc.2
   exact h.ins hn (vac hh) ⟨Int.le_refl _, by show (0 : Int) ≤ (data.size : Int); omega⟩ (by omega) (by show (data.size : Int) ≤ _; omega)
def hdB (n : Int) : ByteArray := strL (frL (beL n 4))
def frB (d : ByteArray) : ByteArray := strL (frL (bytesL d))
def actA (name data : ByteArray) : El u24 := (1, (0, (name, (ByteArray.empty, (data, [])))))
def actS (name : ByteArray) : El u24 := (2, (0, (name, (ByteArray.empty, (ByteArray.empty, [])))))
def v6e (x : Option (El u4)) (n : Int) (data : ByteArray) : List (El u24) :=
 match x with
 | none => [actA (nmV 1) (hdB n ++ frB data)]
 | some f => cond ((ByteArray.size f.2.1 : Int) == 0) [actA f.1 (hdB n ++ frB data)]
  (cond (decide ((ByteArray.size f.2.1 : Int) + ((frB data).size : Int) > 160)) [actS f.1, actA (nmV (segB f.1 + 1)) (hdB n ++ frB data)] [actA f.1 (frB data)])
theorem u48 (n : Int) : (hdB n).size = 10 := by unfold hdB; rw [u11, u34, u14]
theorem u9c (d : ByteArray) : (frB d).size = 6 + d.size := by unfold frB; rw [u11, u34, u13]
theorem frB_i (d : ByteArray) (h : d.size ≤ 1000) : gq155 d = some (frB d) := by
 have := vb1 (bytesL d) (IsBytes.bytesL d) (by rw [u13]; omega)
 rwa [u1e] at this
theorem hdB_i (n : Int) : (gq137 n 4).bind (fun r => gq155 r) = some (hdB n) := by
 rw [v9e, bs, vb1 (beL n 4) (u25 _ _) (by rw [u14]; decide)]
 rfl
theorem hdB_s (n : Int) : gq111 n = some (hdB n) := by
 unfold gq111 gq111.F
 rw [v36, bs, vaf (beL n 4) (u25 _ _) (by rw [u14]; decide), bs]
 rfl
theorem nm_i (n : Int) (h0 : 0 ≤ n) (h1 : n ≤ 99) : gq68 n = some (nmV n) := by
 unfold gq68 gq68.F
 rw [u10 (u61 (by decide)), u10 (u61 (by decide)), u6e h0, u35 h0, wr (x := n / 10) (by omega) (by omega), wr (x := 48 + n / 10) (by omega) (by omega), wr (x := 48 + n % 10) (by omega) (by omega), wr8 (by omega) (by omega), wr8 (by omega) (by omega), show (⟨#[115]⟩ : ByteArray) = strL [115] from rfl, u27, u10 (u43 (by rw [u11, u11]; simp))]
 rfl
theorem nmV_inj {a b : Int} (ha : 0 ≤ a ∧ a ≤ 99) (hb : 0 ≤ b ∧ b ≤ 99) : sEq (nmV a) (nmV b) = decide (a = b) := by
 rw [u56, decide_eq_decide]
 constructor
 ·intro h
  obtain ⟨x, rfl⟩ : ∃ x : Nat, a = x := ⟨a.toNat, by omega⟩
  obtain ⟨y, rfl⟩ : ∃ y : Nat, b = y := ⟨b.toNat, by omega⟩
  have h1 := ve7 (u93 x (by omega)) (u93 y (by omega)) h
  simp only [List.cons.injEq, and_true, true_and] at h1
  omega
 ·rintro rfl
  rfl
theorem u72 {l : List (El u4)} : segs l = [] ∨ ∃ (S : List (El u4)) (k : Nat) (hk : k < l.length), segs l = S ++ [l[k]] ∧ 0 < segB l[k].1 := by
 rcases List.eq_nil_or_concat (segs l) with h | ⟨S, f, h⟩
 ·exact .inl h
 ·rw [List.concat_eq_append] at h
  have hm : f ∈ segs l := by rw [h]; simp
  obtain ⟨h1, h2⟩ := mem_segs hm
  obtain ⟨k, hk, rfl⟩ := List.getElem_of_mem h1
  exact .inr ⟨S, k, hk, h, h2⟩
theorem v5e {room : Int} {l : List (El u4)} (h : DK room l) (h0 : (wV l).2.2.2.2 = 0) (F : Int) (R : List ByteArray) (T : Int) : gq75 F R (wV l).2.2.1 T = some (match (segs l).getLast? with | none => ByteArray.empty | some f => f.1) := by
 have h8 := h.len
 have hs := u59 l
 have hn : (wV l).2.2.1 = (segs l).map fun f => f.1 := (w23 (segs l) 0 0 [] [] 0 h0).1
 rw [hn]
 rcases u72 (l := l) with h1 | ⟨S, k, hk, h1, _⟩
 ·rw [h1]
  rfl
 ·have hl : S.length ≤ 8 := by rw [h1] at hs; simp at hs; omega
  rw [h1, List.map_append, List.map_cons, List.map_nil, w4e _ _ _ _ _ (by rw [List.length_map]; omega)]
  simp
theorem plan_i {room : Int} {l : List (El u4)} (h : DK room l) (h0 : (wV l).2.2.2.2 = 0) (F : Int) (R : List ByteArray) (T : Int) (data : ByteArray) (hd : data.size ≤ 1000) (h99 : ∀ f, (segs l).getLast? = some f → segB f.1 ≠ 99) :
  i_plan room l F R (wV l).2.2.1 T data = some (v6e (segs l).getLast? (IntKind.wrap .i64 (F + (R.length : Int))) data) := by
 have h8 := h.len
 unfold i_plan i_plan.F gq153 gq153.F
 rw [frB_i data hd, bs, v5e h h0, bs, bs]
 have e1 := hdB_i (IntKind.wrap .i64 (F + (R.length : Int)))
 rw [v9e, bs] at e1
 rw [v9e, bs, e1, bs, u10 (u43 (by rw [u48, u9c]; omega))]
 rcases u72 (l := l) with h1 | ⟨S, k, hk, h1, h2⟩
 ·rw [h1]
  show cond (sEq ByteArray.empty ByteArray.empty) _ _ = _
  rw [u2f, ct, nm_i 1 (by decide) (by decide), bs]
  rfl
 ·have hg : (segs l).getLast? = some l[k] := by rw [h1]; simp
  have h9 := h99 _ hg
  have hr := u33 l[k].1
  have hns := u51 (h.name k hk)
  have hsz := h.data (List.getElem_mem hk)
  rw [hg]
  dsimp only
  have hne : l[k].1 ≠ ByteArray.empty := by
   intro e
   have : ByteArray.size l[k].1 = 0 := by rw [e]; rfl
   omega
  rw [u56, uf hne, cf, u52 h hk, bs]
  dsimp only
  rw [u10 (u17 (by omega) (by omega)), Int.toNat_natCast, u1b (k := u4) hk]
  unfold v6e
  dsimp only
  cases ((ByteArray.size l[k].2.1 : Int) == 0) with
  | true => rfl
  | false =>
   rw [cf, cf, wr (x := (ByteArray.size l[k].2.1 : Int) + ((frB data).size : Int)) (by omega) (by rw [u9c]; omega)]
   cases decide ((ByteArray.size l[k].2.1 : Int) + ((frB data).size : Int) > 160) with
   | true =>
    rw [ct, ct, w71 _ (by omega), bs, wr (by omega) (by omega), nm_i _ (by omega) (by omega), bs]
    rfl
   | false => rfl
theorem plan_s {room : Int} {l : List (El u4)} (h : DK room l) (F : Int) (R N : List ByteArray) (T : Int) (data : ByteArray) (hd : data.size ≤ 110) (h99 : ∀ f, (segs l).getLast? = some f → segB f.1 ≠ 99) (hF : segs l = [] → F = 0 ∧ R = []) :
  gq62 room l F R N T data = some (v6e (segs l).getLast? (IntKind.wrap .i64 (F + (R.length : Int))) data) := by
 have h8 := h.len
 have hs := u59 l
 unfold gq62 gq62.F gq62.j1
 rw [vaf _ (IsBytes.bytesL data) (by rw [u13]; omega), bs, v2a room l (by omega) h.fit, bs, List.length_map]
 rcases u72 (l := l) with h1 | ⟨S, k, hk, h1, h2⟩
 ·obtain ⟨rfl, rfl⟩ := hF h1
  rw [h1]
  show cond ((0 : Int) == 0) _ _ = _
  rw [show ((0 : Int) == 0) = true from rfl, ct, nm_s 1 (by decide) (by decide), bs, hdB_s, bs]
  rw [u10 (u43 (by rw [u48, u11, u34, u13]; omega))]
  rfl
 ·have hg : (segs l).getLast? = some l[k] := by rw [h1]; simp
  have h9 := h99 _ hg
  have hr := u33 l[k].1
  have hns := u51 (h.name k hk)
  have hsz := h.data (List.getElem_mem hk)
  have hSl : S.length ≤ 8 := by rw [h1] at hs; simp at hs; omega
  have hn : (segs l).length = S.length + 1 := by rw [h1]; simp
  rw [hg, hn, show (((S.length + 1 : Nat) : Int) == 0) = false by rw [beq_eq_false_iff_ne]; omega, cf, wr (x := ((S.length + 1 : Nat) : Int) - 1) (by omega) (by omega), show ((S.length + 1 : Nat) : Int) - 1 = (S.length : Int) by omega, u10 (u17 (by omega) (by omega)), Int.toNat_natCast]
  have er : rdE (.int .i64 : Kd) ((segs l).map fun f => segB f.1) S.length = segB l[k].1 := by
   rw [u1b (k := .int .i64) (l := (segs l).map fun f => segB f.1) (by rw [List.length_map]; omega)]
   simp [h1]
  rw [er, data_s h hk h2, bs]
  dsimp only
  unfold v6e
  dsimp only
  cases hz : ((ByteArray.size l[k].2.1 : Int) == 0) with
  | true =>
   have hz' : (ByteArray.size l[k].2.1 : Int) = 0 := by simpa using hz
   rw [ct, ct, hdB_s, bs, u10 (u43 (by rw [u48, u11, u34, u13]; omega)), hz']
   have e1 : ((hdB (IntKind.wrap .i64 (F + (R.length : Int))) ++ strL (frL (bytesL data))).size : Int) = 16 + data.size := by
    rw [ByteArray.size_append, u48, u11, u34, u13]
    omega
   rw [e1, wr (by omega) (by omega), ud (by omega), ct, nm_s _ hr.1 hr.2, bs, ← u67 h2]
   rfl
  | false =>
   have e1 : ((strL (frL (bytesL data))).size : Int) = ((frB data).size : Int) := rfl
   rw [cf, cf, e1, wr (x := (ByteArray.size l[k].2.1 : Int) + ((frB data).size : Int)) (by omega) (by rw [u9c]; omega), nm_s _ hr.1 hr.2, bs, bs, ← u67 h2, wr (x := segB l[k].1 + 1) (by omega) (by omega), nm_s _ (by omega) (by omega), bs, hdB_s, bs, u10 (u43 (by rw [u48, u11, u34, u13]; omega))]
   by_cases hc : (ByteArray.size l[k].2.1 : Int) + ((frB data).size : Int) ≤ 160
   ·rw [ud hc, uf (by omega), ct, cf]
    rfl
   ·rw [uf hc, ud (by omega), cf, ct]
    rfl
def chkV (l : List (El u4)) (data : ByteArray) : Int :=
 cond (!(decide ((1 : Int) ≤ (data.size : Int)) && decide ((data.size : Int) ≤ 110))) 4
  (cond ((wV l).2.2.2.2 != 0) (wV l).2.2.2.2
  (cond (decide ((wV l).2.2.2.1 > 0)) 16
  (cond (decide (((wV l).2.1.length : Int) ≥ 60)) 6
  (cond (match (segs l).getLast? with | none => false | some f => segB f.1 == 99) 6 0))))
def uc0 (l : List (El u4)) (data : ByteArray) : List (El u24) := v6e (segs l).getLast? (IntKind.wrap .i64 ((wV l).1 + ((wV l).2.1.length : Int))) data
theorem c99 {room : Int} {l : List (El u4)} (h : DK room l) : sEq (match (segs l).getLast? with | none => ByteArray.empty | some f => f.1) (nmV 99) = (match (segs l).getLast? with | none => false | some f => segB f.1 == 99) := by
 rcases u72 (l := l) with h1 | ⟨S, k, hk, h1, h2⟩
 ·rw [h1]
  show sEq ByteArray.empty (nmV 99) = false
  rw [u56]
  refine uf fun e => ?_
  have e2 : ByteArray.size ByteArray.empty = (nmV 99).size := congrArg ByteArray.size e
  rw [show (nmV 99).size = 3 from u11 _] at e2
  cases e2
 ·have hg : (segs l).getLast? = some l[k] := by rw [h1]; simp
  have hr := u33 l[k].1
  rw [hg]
  dsimp only
  have e : sEq l[k].1 (nmV 99) = sEq (nmV (segB l[k].1)) (nmV 99) := by rw [← u67 h2]
  rw [e, nmV_inj hr (by decide)]
  rfl
theorem w69 {room : Int} {l : List (El u4)} (h : DK room l) (data : ByteArray) (hd : data.size ≤ 1000000000) : gq70 room l data = some (cond (chkV l data != 0) [] (uc0 l data), chkV l data) := by
 unfold gq70 gq70.F chkV
 rw [u2b, bs]
 cases hb : (decide ((1 : Int) ≤ (data.size : Int)) && decide ((data.size : Int) ≤ 110)) with
 | false => rfl
 | true =>
  rw [Bool.and_eq_true, decide_eq_true_iff, decide_eq_true_iff] at hb
  rw [Bool.not_true, cf, cf, wal_i h, bs]
  cases hc : (wV l).2.2.2.2 != 0 with
  | true =>
   rw [ct, ct, hc]
   rfl
  | false =>
   have h0 : (wV l).2.2.2.2 = 0 := by simpa using hc
   rw [cf, cf]
   cases decide ((wV l).2.2.2.1 > 0) with
   | true => rfl
   | false =>
    rw [cf, cf]
    cases decide (((wV l).2.1.length : Int) ≥ 60) with
    | true => rfl
    | false =>
     rw [cf, cf, v5e h h0, bs, nm_i 99 (by decide) (by decide), bs, c99 h]
     cases h9 : (match (segs l).getLast? with | none => false | some f => segB f.1 == 99) with
     | true => rfl
     | false =>
      rw [cf, cf, plan_i h h0 _ _ _ data (by omega) (fun f hf => by
       rw [hf] at h9
       simpa using h9), bs]
      rfl
theorem v57 (n : Nat) (h : n ≤ 99) : u68 (nmV n) = true := by
 unfold u68 nmV
 rw [u1d (u93 n h)]
 unfold vb4
 simp only [okN, letB, digB, List.length_cons, List.length_nil]
 rw [ud (show (48 : Int) ≤ 48 + (n : Int) / 10 by omega), ud (show 48 + (n : Int) / 10 ≤ 57 by omega), ud (show (48 : Int) ≤ 48 + (n : Int) % 10 by omega), ud (show 48 + (n : Int) % 10 ≤ 57 by omega)]
 simp
def doV (room : Int) : List (El u4) → List (El u24) → Int × List (El u4)
 | l, [] => (0, l)
 | l, a :: r => cond (a.1 == 2) (doV room (syV l a.2.2.1) r) (cond ((apV room l a.2.2.1 a.2.2.2.2.1).1 != 0) ((apV room l a.2.2.1 a.2.2.2.2.1).1, []) (doV room (apV room l a.2.2.1 a.2.2.2.2.1).2 r))
def OkN (n d : ByteArray) : Prop := u68 n = true ∧ d.size ≤ 1000000
inductive OkA (l : List (El u4)) : List (El u24) → Prop
 | one {n d} : OkN n d → OkA l [actA n d]
 | two {m n d} : has l m = true → OkN n d → OkA l [actS m, actA n d]
theorem u8f (room : Int) (l : List (El u4)) (n d : ByteArray) : doV room l [actA n d] = cond ((apV room l n d).1 != 0) ((apV room l n d).1, []) (0, (apV room l n d).2) := rfl
theorem va2 (room : Int) (l : List (El u4)) (m n d : ByteArray) : doV room l [actS m, actA n d] = doV room (syV l m) [actA n d] := rfl
theorem w77 {R : Type} (kke : Int → Int → List (El u4) → Option R) (kkr : Int → Int → Option R) {room : Int} {l : List (El u4)} (h : DK room l) {n d : ByteArray} (ho : OkN n d) (i2 : Int) (L : List (El u24)) (j fu : Nat) (hj : L = L.take j ++ [actA n d]) (hjl : j + 1 = L.length) (hL : L.length ≤ 2) :
  gq71.l1 kke kkr (fu + 2) (L.length : Int) (j : Int) i2 room L l = cond ((doV room l [actA n d]).1 != 0) (kkr (doV room l [actA n d]).1 0) (kke i2 room (doV room l [actA n d]).2) := by
 have er : rdE u24 L j = actA n d := by
  rw [u1b (k := u24) (by omega)]
  have : L[j]'(by omega) = (L.take j ++ [actA n d])[j]'(by rw [← hj]; omega) := by congr 1
  have hjj : (L.take j).length = j := by rw [List.length_take]; omega
  rw [this, List.getElem_append_right (by omega)]
  simp [hjj]
 have e1 := w8f h ho.1 d ho.2 0 ByteArray.empty []
 rw [u8f]
 simp only [gq71.l1]
 rw [ud (by omega), ct, u10 (u17 (by omega) (by omega)), Int.toNat_natCast, er]
 show Option.bind (gq55 room l 1 0 n ByteArray.empty d []) _ = _
 rw [e1, bs]
 cases hc : (apV room l n d).1 != 0 with
 | true =>
  rw [ct, ct]
  dsimp only
  rw [hc, ct]
 | false =>
  rw [cf, cf]
  dsimp only
  rw [wr (by omega) (by omega), uf (by omega), cf]
  rfl
theorem w4d {R : Type} (kke : Int → Int → List (El u4) → Option R) (kkr : Int → Int → Option R) {room : Int} {l : List (El u4)} (h : DP room l) {L : List (El u24)} (ho : OkA l L) (i2 : Int) :
  gq71.l1 kke kkr fuel (L.length : Int) 0 i2 room L l = cond ((doV room l L).1 != 0) (kkr (doV room l L).1 0) (kke i2 room (doV room l L).2) := by
 obtain ⟨fu, hfu⟩ : ∃ q, fuel = q + 3 := ⟨fuel - 3, by rw [u54]⟩
 rw [hfu]
 cases ho with
 | one ho => exact w77 kke kkr h.dk ho i2 _ 0 (fu + 1) rfl rfl (by simp)
 | @two m n d hm ho =>
  have e1 := w13 h.dk hm 0 ByteArray.empty ByteArray.empty []
  rw [va2]
  have e2 := w77 kke kkr (h.sync m).dk ho i2 [actS m, actA n d] 1 fu rfl rfl (by simp)
  rw [gq71.l1]
  rw [ud (show (0 : Int) < (List.length [actS m, actA n d] : Int) by simp), ct, u10 (u17 (by omega) (by simp))]
  show Option.bind (gq55 room l 2 0 m ByteArray.empty ByteArray.empty []) _ = _
  rw [e1, bs]
  exact e2
theorem w5f {R : Type} (kke : Int → Int → List (El u4) → Option R) (kkr : Int → Int → List (El u4) → Option R) {room : Int} {l : List (El u4)} (h : DK room l) {n d : ByteArray} (ho : OkN n d) (i1 d0 : Int) (d1 : List (El u4)) (L : List (El u24)) (j fu : Nat) (hj : L = L.take j ++ [actA n d]) (hjl : j + 1 = L.length) (hL : L.length ≤ 2) :
  gq61.l1 kke kkr (fu + 2) L (j : Int) d0 d1 i1 room l = cond ((doV room l [actA n d]).1 != 0) (kkr (doV room l [actA n d]).1 d0 d1) (kke i1 room (doV room l [actA n d]).2) := by
 have er : rdE u24 L j = actA n d := by
  rw [u1b (k := u24) (by omega)]
  have : L[j]'(by omega) = (L.take j ++ [actA n d])[j]'(by rw [← hj]; omega) := by congr 1
  have hjj : (L.take j).length = j := by rw [List.length_take]; omega
  rw [this, List.getElem_append_right (by omega)]
  simp [hjj]
 have e1 := w3b h ho.1 d ho.2 0 ByteArray.empty []
 rw [u8f]
 simp only [gq61.l1]
 rw [ud (by omega), ct, u10 (u17 (by omega) (by omega)), Int.toNat_natCast, er]
 show Option.bind (gq74 room l 1 0 n ByteArray.empty d []) _ = _
 rw [e1, bs]
 cases hc : (apV room l n d).1 != 0 with
 | true =>
  rw [ct, ct]
  dsimp only
  rw [hc, ct]
 | false =>
  rw [cf, cf]
  dsimp only
  rw [wr (by omega) (by omega), uf (by omega), cf]
  rfl
theorem w65 {room : Int} {l : List (El u4)} (h : DP room l) {L : List (El u24)} (ho : OkA l L) :
  gq61 room l L = some (cond ((doV room l L).1 != 0) (room, l, (doV room l L).1) (room, (doV room l L).2, 0)) := by
 obtain ⟨fu, hfu⟩ : ∃ q, fuel = q + 3 := ⟨fuel - 3, by rw [u54]⟩
 unfold gq61 gq61.F
 rw [hfu]
 cases ho with
 | @one n d ho =>
  have e2 := w5f (fun i x x1 => some (x, x1, (0 : Int))) (fun i1 i2 l => some (i2, l, i1)) h.dk ho 0 room l [actA n d] 0 (fu + 1) rfl rfl (by simp)
  refine Eq.trans e2 ?_
  cases (doV room l [actA n d]).1 != 0 <;> rfl
 | @two m n d hm ho =>
  have e1 := uf3 h.dk hm 0 ByteArray.empty ByteArray.empty []
  rw [va2]
  have e2 := w5f (fun i x x1 => some (x, x1, (0 : Int))) (fun i1 i2 l => some (i2, l, i1)) (h.sync m).dk ho 0 room l [actS m, actA n d] 1 fu rfl rfl (by simp)
  rw [gq61.l1]
  rw [ud (show (0 : Int) < (List.length [actS m, actA n d] : Int) by simp), ct, u10 (u17 (by omega) (by simp))]
  show Option.bind (gq74 room l 2 0 m ByteArray.empty ByteArray.empty []) _ = _
  rw [e1, bs]
  refine Eq.trans e2 ?_
  cases (doV room (syV l m) [actA n d]).1 != 0 <;> rfl
theorem doV_dp {room : Int} {l : List (El u4)} (h : DP room l) {L : List (El u24)} (ho : OkA l L) (h0 : (doV room l L).1 = 0) : DP room (doV room l L).2 := by
 have one : ∀ {l : List (El u4)} (h : DP room l) {n d : ByteArray} (ho : OkN n d) (h0 : (doV room l [actA n d]).1 = 0), DP room (doV room l [actA n d]).2 := by
  intro l h n d ho h0
  rw [u8f] at h0 ⊢
  cases hc : (apV room l n d).1 != 0 with
  | true =>
   rw [hc, ct] at h0
   have h0 : (apV room l n d).1 = 0 := h0
   rw [h0] at hc
   cases hc
  | false =>
   rw [cf]
   exact h.ap ho.1 d (by simpa using hc)
 cases ho with
 | one ho => exact one h ho h0
 | two hm ho => exact one (h.sync _) ho h0
theorem ud7 {room : Int} {l : List (El u4)} (h : DK room l) {data : ByteArray} (hc : chkV l data = 0) : OkA l (uc0 l data) ∧ data.size ≤ 110 := by
 have hd : data.size ≤ 110 ∧ ∀ f, (segs l).getLast? = some f → segB f.1 ≠ 99 := by
  unfold chkV at hc
  cases hb : (decide ((1 : Int) ≤ (data.size : Int)) && decide ((data.size : Int) ≤ 110)) with
  | false => rw [hb] at hc; cases hc
  | true =>
   rw [hb, Bool.not_true, cf] at hc
   rw [Bool.and_eq_true, decide_eq_true_iff, decide_eq_true_iff] at hb
   refine ⟨by omega, fun f hf e => ?_⟩
   cases h1 : (wV l).2.2.2.2 != 0 with
   | true =>
    rw [h1, ct] at hc
    rw [hc] at h1
    cases h1
   | false =>
    rw [h1, cf] at hc
    cases h2 : decide ((wV l).2.2.2.1 > 0) with
    | true => rw [h2] at hc; cases hc
    | false =>
     rw [h2, cf] at hc
     cases h3 : decide (((wV l).2.1.length : Int) ≥ 60) with
     | true => rw [h3] at hc; cases hc
     | false =>
      rw [h3, cf, hf] at hc
      dsimp only at hc
      rw [e] at hc
      cases hc
 refine ⟨?_, hd.1⟩
 have hfr := u9c data
 unfold uc0
 rcases u72 (l := l) with h1 | ⟨S, k, hk, h1, h2⟩
 ·rw [h1]
  exact .one ⟨v57 1 (by decide), by rw [ByteArray.size_append, u48, hfr]; omega⟩
 ·have hg : (segs l).getLast? = some l[k] := by rw [h1]; simp
  have h9 := hd.2 _ hg
  have hr := u33 l[k].1
  have hsz := h.data (List.getElem_mem hk)
  rw [hg]
  unfold v6e
  dsimp only
  cases ((ByteArray.size l[k].2.1 : Int) == 0) with
  | true => exact .one ⟨h.name k hk, by rw [ByteArray.size_append, u48, hfr]; omega⟩
  | false =>
   rw [cf]
   cases decide ((ByteArray.size l[k].2.1 : Int) + ((frB data).size : Int) > 160) with
   | true =>
    refine .two ?_ ⟨?_, by rw [ByteArray.size_append, u48, hfr]; omega⟩
    ·unfold has
     rw [List.any_eq_true]
     exact ⟨l[k], List.getElem_mem hk, u2f _⟩
    ·have := v57 ((segB l[k].1).toNat + 1) (by omega)
     rwa [show (((segB l[k].1).toNat + 1 : Nat) : Int) = segB l[k].1 + 1 by omega] at this
   | false => exact .one ⟨h.name k hk, by rw [hfr]; omega⟩
def wapV (room : Int) (l : List (El u4)) (data : ByteArray) : Int × List (El u4) × Int :=
 cond (chkV l data != 0) (0, [], chkV l data) (cond ((doV room l (uc0 l data)).1 != 0) (0, [], (doV room l (uc0 l data)).1) (room, (doV room l (uc0 l data)).2, 0))
theorem v92 {room : Int} {l : List (El u4)} (h : DP room l) (data : ByteArray) (hd : data.size ≤ 1000000000) : gq71 room l data = some (wapV room l data) := by
 have h8 := h.len
 unfold gq71 gq71.F wapV
 rw [w69 h.dk data hd, bs]
 dsimp only
 cases hc : chkV l data != 0 with
 | true => rw [ct, ct]
 | false =>
  have h0 : chkV l data = 0 := by simpa using hc
  unfold gq53 gq53.F
  rw [cf, cf, cf, v9f l (by omega), bs, bs]
  dsimp only
  rw [w4d _ _ h (ud7 h.dk h0).1]
  cases (doV room l (uc0 l data)).1 != 0 <;> rfl
theorem wapV_dp {room : Int} {l : List (El u4)} (h : DP room l) {data : ByteArray} (h0 : (wapV room l data).2.2 = 0) : (wapV room l data).1 = room ∧ DP room (wapV room l data).2.1 := by
 unfold wapV at h0 ⊢
 cases hc : chkV l data != 0 with
 | true =>
  rw [hc, ct] at h0
  have h0 : chkV l data = 0 := h0
  rw [h0] at hc
  cases hc
 | false =>
  have hc0 : chkV l data = 0 := by simpa using hc
  rw [hc, cf] at h0
  rw [cf]
  cases hr : (doV room l (uc0 l data)).1 != 0 with
  | true =>
   rw [hr, ct] at h0
   have h0 : (doV room l (uc0 l data)).1 = 0 := h0
   rw [h0] at hr
   cases hr
  | false =>
   rw [cf]
   exact ⟨rfl, doV_dp h (ud7 h.dk hc0).1 (by simpa using hr)⟩
theorem check_v {room : Int} {l : List (El u4)} (h : DP room l) (data : ByteArray) (hd : data.size ≤ 65536) : ∃ F R N T, gq60 room l data = some (F, R, N, T, chkV l data) ∧ (chkV l data = 0 → F = (wV l).1 ∧ R = (wV l).2.1) := by
 have h8 := h.len
 have hs := u59 l
 unfold gq60 gq60.F chkV
 rw [uf (by omega), cf, w32 room l (by omega) ⟨h.dk.fit, fun f hf => by have := h.dk.data hf; omega⟩, bs, h.ok, Bool.not_true, cf, u58, bs]
 cases hb : (decide ((1 : Int) ≤ (data.size : Int)) && decide ((data.size : Int) ≤ 110)) with
 | false => exact ⟨_, _, _, _, rfl, fun h => by cases h⟩
 | true =>
  obtain ⟨v, e1, e2⟩ := walV_s h.dk
  rw [Bool.not_true, cf, cf, e1, bs, v2a room l (by omega) h.dk.fit, bs]
  cases hv : v.2.2.2.2 != 0 with
  | true =>
   rw [hv, ct] at e2
   rw [← e2]
   rw [ct]
   show ∃ F R N T, _ = some (F, R, N, T, cond (v.2.2.2.2 != 0) v.2.2.2.2 _) ∧ (cond (v.2.2.2.2 != 0) v.2.2.2.2 _ = 0 → _)
   rw [hv, ct]
   refine ⟨_, _, _, _, rfl, fun h => ?_⟩
   rw [h] at hv
   cases hv
  | false =>
   rw [hv, cf] at e2
   rw [← e2, cf]
   show ∃ F R N T, _ = some (F, R, N, T, cond (v.2.2.2.2 != 0) v.2.2.2.2 _) ∧ (cond (v.2.2.2.2 != 0) v.2.2.2.2 _ = 0 → _)
   rw [hv, cf]
   cases decide (v.2.2.2.1 > 0) with
   | true => exact ⟨_, _, _, _, rfl, fun h => by cases h⟩
   | false =>
    rw [cf, cf]
    cases decide ((v.2.1.length : Int) ≥ 60) with
    | true => exact ⟨_, _, _, _, rfl, fun h => by cases h⟩
    | false =>
     rw [cf, cf, List.length_map]
     rcases u72 (l := l) with h1 | ⟨S, k, hk, h1, h2⟩
     ·rw [h1]
      exact ⟨_, _, _, _, rfl, fun _ => ⟨rfl, rfl⟩⟩
     ·have hg : (segs l).getLast? = some l[k] := by rw [h1]; simp
      have hn : (segs l).length = S.length + 1 := by rw [h1]; simp
      rw [hg, hn, ud (by omega), ct, wr (x := ((S.length + 1 : Nat) : Int) - 1) (by omega) (by omega), show ((S.length + 1 : Nat) : Int) - 1 = (S.length : Int) by omega, u10 (u17 (by omega) (by omega)), Int.toNat_natCast]
      have er : rdE (.int .i64 : Kd) ((segs l).map fun f => segB f.1) S.length = segB l[k].1 := by
       rw [u1b (k := .int .i64) (l := (segs l).map fun f => segB f.1) (by rw [List.length_map]; omega)]
       simp [h1]
      rw [er]
      dsimp only
      cases (segB l[k].1 == 99) with
      | true => exact ⟨_, _, _, _, rfl, fun h => by cases h⟩
      | false => exact ⟨_, _, _, _, rfl, fun _ => ⟨rfl, rfl⟩⟩
theorem wV_none {l : List (El u4)} (h : segs l = []) : (wV l).1 = 0 ∧ (wV l).2.1 = [] := by
 unfold wV
 rw [h]
 exact ⟨rfl, rfl⟩
theorem planDo_s {room : Int} {l : List (El u4)} (h : DP room l) {data : ByteArray} (hc : chkV l data = 0) (N : List ByteArray) (T : Int) :
  gq62 room l (wV l).1 (wV l).2.1 N T data = some (uc0 l data) := by
 have h9 : ∀ f, (segs l).getLast? = some f → segB f.1 ≠ 99 := by
  intro f hf e
  have h2 := c99 h.dk
  unfold chkV at hc
  cases hb : (decide ((1 : Int) ≤ (data.size : Int)) && decide ((data.size : Int) ≤ 110)) with
  | false => rw [hb] at hc; cases hc
  | true =>
   rw [hb, Bool.not_true, cf] at hc
   cases h1 : (wV l).2.2.2.2 != 0 with
   | true =>
    rw [h1, ct] at hc
    rw [hc] at h1
    cases h1
   | false =>
    rw [h1, cf] at hc
    cases h2 : decide ((wV l).2.2.2.1 > 0) with
    | true => rw [h2] at hc; cases hc
    | false =>
     rw [h2, cf] at hc
     cases h3 : decide (((wV l).2.1.length : Int) ≥ 60) with
     | true => rw [h3] at hc; cases hc
     | false =>
      rw [h3, cf, hf] at hc
      dsimp only at hc
      rw [e] at hc
      cases hc
 exact plan_s h.dk _ _ N T data (ud7 h.dk hc).2 h9 fun hs => wV_none hs
def wfV (room : Int) (l : List (El u4)) (data : ByteArray) : Int × List (El u4) × Int :=
 cond (decide ((data.size : Int) > 65536)) (0, [], 2) (cond (!dOK room l) (0, [], 1) (wapV room l data))
theorem w6c (room : Int) (l : List (El u4)) (hl : l.length ≤ 10000000) (hf : DFit l) (data : ByteArray) (hd : data.size ≤ 1000000000) : gq27 room l data = some (wfV room l data) := by
 unfold gq27 gq27.F wfV
 rw [w34 [data] (by simp), bs]
 by_cases h1 : (data.size : Int) > 65536
 ·rw [ud h1, ct, show ([data].all isTx) = false by simp [isTx]; omega]
  rfl
 ·rw [uf h1, cf, show ([data].all isTx) = true by simp [isTx]; omega, Bool.not_true, cf, disk_i room l (by omega) hf, bs]
  cases hd' : dOK room l with
  | false => rfl
  | true =>
   have h := (w74 hd').dp
   rw [Bool.not_true, cf, cf, v92 h data hd, bs]
theorem u8_lt {a b : Int} (ha : 0 ≤ a ∧ a < 256) (hb : 0 ≤ b ∧ b < 256) : (UInt8.ofNat a.toNat < UInt8.ofNat b.toNat) ↔ a < b := by
 rw [UInt8.lt_iff_toNat_lt, UInt8.toNat_ofNat', UInt8.toNat_ofNat', Nat.mod_eq_of_lt (by omega), Nat.mod_eq_of_lt (by omega)]
 omega
theorem nm_lt {i j : Nat} (h : i < j) (hj : j ≤ 99) : sLt (nmV i) (nmV j) = true := by
 unfold sLt
 have e : ∀ n : Nat, (nmV n).toList = [UInt8.ofNat (115 : Int).toNat, UInt8.ofNat (48 + (n : Int) / 10).toNat, UInt8.ofNat (48 + (n : Int) % 10).toNat] := fun n => by
  unfold nmV
  rw [ByteArray.toList_eq]
  rfl
 rw [e, e]
 simp only [Op.bytesLess, beq_self_eq_true, Bool.true_and, Bool.or_eq_true, Bool.and_eq_true, decide_eq_true_iff, beq_iff_eq, Bool.and_false, Bool.or_false]
 rcases Nat.lt_or_ge (i / 10) (j / 10) with h1 | h1
 ·exact .inr (.inl ((u8_lt (by omega) (by omega)).2 (by omega)))
 ·have e1 : i / 10 = j / 10 := by omega
  refine .inr (.inr ⟨by congr 3; omega, ?_⟩)
  first
  | exact (u8_lt (by omega) (by omega)).2 (by omega)
  | exact .inl ((u8_lt (by omega) (by omega)).2 (by omega))
def u19 (g : List ByteArray) : Nat := 10 + (g.map fun r => 6 + r.size).sum
theorem u57 (F : Nat) (g : List ByteArray) : (recs (segD F g)).length = u19 g := by
 have key : ∀ g : List ByteArray, (recs (g.map bytesL)).length = (g.map fun r => 6 + r.size).sum := by
  intro g
  induction g with
  | nil => rfl
  | cons r g ih => rw [List.map_cons, u31, List.length_append, u34, u13, ih, List.map_cons, List.sum_cons]
 unfold segD u19
 rw [u31, List.length_append, u34, u14, key]
theorem ufd {g : List ByteArray} (h : ∀ r ∈ g, Rec1 r) : u19 g ≤ 10 + 116 * g.length := by
 unfold u19
 have key : ∀ g : List ByteArray, (∀ r ∈ g, Rec1 r) → (g.map fun r => 6 + r.size).sum ≤ 116 * g.length := by
  intro g
  induction g with
  | nil => intro _; simp
  | cons r g ih =>
   intro h
   have h1 := ih fun r hr => h r (by simp [hr])
   have h2 := h r (by simp)
   unfold Rec1 at h2
   rw [List.map_cons, List.sum_cons, List.length_cons]
   omega
 have := key g h
 omega
theorem v7d (g : List ByteArray) (r : ByteArray) : u19 (g ++ [r]) = u19 g + (6 + r.size) := by
 unfold u19
 rw [List.map_append, List.sum_append]
 simp
 omega
theorem ua3 : ∀ (gs : Gs) (n F : Nat), totF (logF n F gs) = (gs.map fun g => u19 g.1).sum
 | [], _, _ => rfl
 | g :: gs, n, F => by
  rw [logF]
  simp only [totF, ua3 gs, List.map_cons, List.sum_cons]
  rw [show ByteArray.size (segF n F g.1 g.2).2.1 = u19 g.1 from (u11 _).trans (u57 F g.1)]
structure LG (gs : Gs) : Prop where
 recs : ue4 gs
 ne : ∀ g ∈ gs, g.1 ≠ []
 sure : ∀ g ∈ gs, 0 ≤ g.2 ∧ g.2 ≤ (u19 g.1 : Int)
 len : gs.length ≤ 8
 cnt : (allR gs).length ≤ 22
theorem w63 : ∀ (gs : Gs), ue4 gs → (∀ g ∈ gs, g.1 ≠ []) → (gs.map fun g => u19 g.1).sum ≤ 126 * (allR gs).length
 | [], _, _ => by simp
 | g :: gs, h, hn => by
  have h1 := w63 gs (fun x hx => h x (by simp [hx])) fun x hx => hn x (by simp [hx])
  have h2 := ufd (h g (by simp))
  have h3 : g.1.length ≠ 0 := fun e => hn g (by simp) (List.length_eq_zero_iff.1 e)
  rw [List.map_cons, List.sum_cons, u55, List.length_append]
  omega
theorem v64 : ∀ (gs : Gs) (n F : Nat), n + gs.length ≤ 100 → (logF n F gs).Pairwise fun a b => sLt a.1 b.1 = true
 | [], _, _, _ => List.Pairwise.nil
 | g :: gs, n, F, h => by
  rw [List.length_cons] at h
  rw [logF, List.pairwise_cons]
  refine ⟨fun f hf => ?_, v64 gs (n + 1) _ (by omega)⟩
  obtain ⟨i, F', g', h1, h2, _, rfl⟩ := u4e gs (n + 1) _ f hf
  exact nm_lt (by omega) (by omega)
theorem LG.dp {gs : Gs} (h : LG gs) (n F : Nat) (hn : n + gs.length ≤ 100) : DP 3000 (logF n F gs) := by
 refine ⟨by decide, by rw [u26]; exact h.len, ?_, fun f hf => ?_, v64 gs n F hn, fun f hf => ?_⟩
 ·have := w63 gs h.recs h.ne
  have := h.cnt
  rw [ua3]
  omega
 ·obtain ⟨i, F', g, h1, h2, _, rfl⟩ := u4e gs n F f hf
  exact v57 i (by omega)
 ·obtain ⟨i, F', g, h1, h2, h3, rfl⟩ := u4e gs n F f hf
  have := h.sure g h3
  rw [show ByteArray.size (segF i F' g.1 g.2).2.1 = u19 g.1 from (u11 _).trans (u57 F' g.1)]
  exact this
def addG (gs : Gs) (r : ByteArray) : Gs := match gs.getLast? with
 | none => [([r], 0)]
 | some g => if u19 g.1 + (6 + r.size) ≤ 160 then gs.dropLast ++ [(g.1 ++ [r], g.2)] else gs.dropLast ++ [(g.1, (u19 g.1 : Int)), ([r], 0)]
theorem v45 (r : ByteArray) : addG [] r = [([r], 0)] := rfl
theorem u76 (gs : Gs) (g : List ByteArray × Int) (r : ByteArray) : addG (gs ++ [g]) r = if u19 g.1 + (6 + r.size) ≤ 160 then gs ++ [(g.1 ++ [r], g.2)] else gs ++ [(g.1, (u19 g.1 : Int)), ([r], 0)] := by
 unfold addG
 simp
theorem v12 (name : ByteArray) (u : El u4 → El u4) (a b : List (El u4)) : updF name u (a ++ b) = updF name u a ++ updF name u b := by
 unfold updF
 rw [List.map_append]
theorem vc1 {name : ByteArray} (u : El u4 → El u4) {l : List (El u4)} (h : ∀ f ∈ l, f.1 ≠ name) : updF name u l = l := by
 unfold updF
 conv => rhs; rw [← List.map_id l]
 refine List.map_congr_left fun f hf => ?_
 rw [u56, uf (h f hf), cf]
 rfl
theorem w51 (u : El u4 → El u4) (f : El u4) : updF f.1 u [f] = [u f] := by
 unfold updF
 rw [List.map_cons, u2f, ct]
 rfl
theorem u99 {gs : Gs} {n F : Nat} (hn : n + gs.length ≤ 100) {j : Nat} (hj : n + gs.length ≤ j) (hj9 : j ≤ 99) : ∀ f ∈ logF n F gs, f.1 ≠ nmV j := by
 intro f hf
 obtain ⟨i, F', g, h1, h2, _, rfl⟩ := u4e gs n F f hf
 exact ufc (nm_lt (by omega) (by omega))
theorem vc6 : ∀ {l : List (El u4)} {f : El u4}, (∀ g ∈ l, sLt g.1 f.1 = true) → insF f l = l ++ [f]
 | [], f, _ => rfl
 | g :: r, f, h => by
  unfold insF
  rw [if_pos (h g (by simp)), vc6 fun x hx => h x (by simp [hx])]
  rfl
theorem ap_rec {n F : Nat} {gs : Gs} {g : List ByteArray} {s : Int} {r : ByteArray} (hn : n + gs.length ≤ 99) (ht : ((frB r).size : Int) ≤ 3000 - totF (logF n F (gs ++ [(g, s)]))) :
  apV 3000 (logF n F (gs ++ [(g, s)])) (nmV ((n + gs.length : Nat) : Int)) (frB r) = (0, logF n F (gs ++ [(g ++ [r], s)])) := by
 have e1 : logF n F (gs ++ [(g, s)]) = logF n F gs ++ [segF (n + gs.length) (F + (allR gs).length) g s] := u2c gs [(g, s)] n F
 have e2 : logF n F (gs ++ [(g ++ [r], s)]) = logF n F gs ++ [segF (n + gs.length) (F + (allR gs).length) (g ++ [r]) s] := u2c gs [(g ++ [r], s)] n F
 unfold apV
 have hh : has (logF n F (gs ++ [(g, s)])) (nmV ((n + gs.length : Nat) : Int)) = true := by
  unfold has
  rw [e1, List.any_append]
  simp [segF, u2f]
 rw [hh, ct, uf (by omega), cf, e1, e2, v12, vc1 _ (u99 (by omega) (Nat.le_refl _) hn)]
 have e3 := w51 (addU (frB r)) (segF (n + gs.length) (F + (allR gs).length) g s)
 have e4 : addU (frB r) (segF (n + gs.length) (F + (allR gs).length) g s) = segF (n + gs.length) (F + (allR gs).length) (g ++ [r]) s := by
  unfold addU segF frB
  dsimp only
  rw [u27]
  congr 3
  unfold segD
  rw [List.map_append, ← List.cons_append, u90]
  simp [recs]
 rw [e4] at e3
 exact congrArg (fun x => (0, logF n F gs ++ x)) e3
theorem sy_log {n F : Nat} {gs : Gs} {g : List ByteArray} {s : Int} (hn : n + gs.length ≤ 99) :
  syV (logF n F (gs ++ [(g, s)])) (nmV ((n + gs.length : Nat) : Int)) = logF n F (gs ++ [(g, (u19 g : Int))]) := by
 have e1 : logF n F (gs ++ [(g, s)]) = logF n F gs ++ [segF (n + gs.length) (F + (allR gs).length) g s] := u2c gs [(g, s)] n F
 have e2 : logF n F (gs ++ [(g, (u19 g : Int))]) = logF n F gs ++ [segF (n + gs.length) (F + (allR gs).length) g (u19 g)] := u2c gs [(g, (u19 g : Int))] n F
 unfold syV
 rw [e1, e2, v12, vc1 _ (u99 (by omega) (Nat.le_refl _) hn)]
 have e3 := w51 vf9 (segF (n + gs.length) (F + (allR gs).length) g s)
 have e4 : vf9 (segF (n + gs.length) (F + (allR gs).length) g s) = segF (n + gs.length) (F + (allR gs).length) g (u19 g) := by
  unfold vf9 segF
  dsimp only
  rw [u11, u57]
 rw [e4] at e3
 exact congrArg (fun x => logF n F gs ++ x) e3
theorem ap_new {n F : Nat} {gs : Gs} {r : ByteArray} (hn : n + gs.length ≤ 99) (h8 : gs.length < 8) (ht : ((hdB ((F + (allR gs).length : Nat) : Int) ++ frB r).size : Int) ≤ 3000 - totF (logF n F gs)) :
  apV 3000 (logF n F gs) (nmV ((n + gs.length : Nat) : Int)) (hdB ((F + (allR gs).length : Nat) : Int) ++ frB r) = (0, logF n F (gs ++ [([r], 0)])) := by
 have e2 : logF n F (gs ++ [([r], 0)]) = logF n F gs ++ [segF (n + gs.length) (F + (allR gs).length) [r] 0] := u2c gs [([r], 0)] n F
 unfold apV
 have hh : has (logF n F gs) (nmV ((n + gs.length : Nat) : Int)) = false := by
  unfold has
  rw [List.any_eq_false]
  intro f hf e
  exact u99 (by omega) (Nat.le_refl _) hn f hf (sEq_iff.1 e)
 have h8' : ((logF n F gs).length : Int) ≠ 8 := by rw [u26]; omega
 rw [hh, cf, show (((logF n F gs).length : Int) == 8) = false by rw [beq_eq_false_iff_ne]; exact h8', Bool.false_or, uf (by omega), cf, vc6 (f := (nmV ((n + gs.length : Nat) : Int), (hdB ((F + (allR gs).length : Nat) : Int) ++ frB r, (0 : Int)))) (fun g hg => by
  obtain ⟨i, F', g', h1, h2, _, rfl⟩ := u4e gs n F g hg
  exact nm_lt (by omega) (by omega)), e2]
 congr 3
 unfold segF hdB frB segD
 rw [u27]
 congr 3
 simp [recs]
theorem ap_full {n F : Nat} {gs : Gs} {d : ByteArray} (hn : n + gs.length ≤ 99) (h8 : gs.length = 8) : (apV 3000 (logF n F gs) (nmV ((n + gs.length : Nat) : Int)) d).1 = 7 := by
 unfold apV
 have hh : has (logF n F gs) (nmV ((n + gs.length : Nat) : Int)) = false := by
  unfold has
  rw [List.any_eq_false]
  intro f hf e
  exact u99 (by omega) (Nat.le_refl _) hn f hf (sEq_iff.1 e)
 rw [hh, cf, show (((logF n F gs).length : Int) == 8) = true by rw [u26, h8]; rfl, Bool.true_or, ct]
def eqE (a b : El ue) : Bool := (a.1 == b.1) && ((a.2.1 == b.2.1) && sEq a.2.2 b.2.2)
def u2d : List (El ue) → List (El ue) → Nat
 | a :: r, b :: q => cond (eqE a b) (u2d r q + 1) 0
 | _, _ => 0
theorem v53 : ∀ (a b : List (El ue)), u2d a b ≤ a.length ∧ u2d a b ≤ b.length
 | [], _ => ⟨Nat.zero_le _, Nat.zero_le _⟩
 | _ :: _, [] => ⟨Nat.zero_le _, Nat.zero_le _⟩
 | a :: r, b :: q => by
  have := v53 r q
  unfold u2d
  cases eqE a b with
  | true => simp only [cond_true, List.length_cons]; omega
  | false => simp only [cond_false, List.length_cons]; omega
theorem va6 (a : List (El ue)) : u2d a [] = 0 := by cases a <;> rfl
def tRec (t v : Int) : ByteArray := strL ([84] ++ beL t 4 ++ beL (v + 1) 1)
def cRec (k : Int) : ByteArray := strL ([67] ++ beL k 4)
def eRec (e : El ue) : ByteArray := strL ([69] ++ entB e.1 e.2.1 (bytesL e.2.2))
def recV (t v : Int) (l : List (El ue)) (t' v' : Int) (l' : List (El ue)) : List ByteArray :=
 cond (t != t' || v != v') [tRec t' v'] [] ++ cond (decide (u2d l l' < l.length)) [cRec (u2d l l')] [] ++ (l'.drop (u2d l l')).map eRec
theorem ents_s {R : Type} (kke : List ByteArray → Option R) (t v : Int) (l : List (El ue)) (hl : l.length ≤ 1000) (hs : ∀ e ∈ l, e.2.2.size ≤ 1000) : ∀ (m fu j : Nat) (out : List ByteArray), j + m = l.length → m < fu → out.length + m ≤ 5000 →
  gq80.l5 kke fu (j : Int) t v l out = kke (out ++ (l.drop j).map eRec) := by
 intro m
 induction m with
 | zero =>
  intro fu j out e hf ho
  obtain ⟨fu, rfl⟩ : ∃ q, fu = q + 1 := ⟨fu - 1, by omega⟩
  simp only [gq80.l5]
  rw [uf (by omega), cf, List.drop_eq_nil_of_le (by omega)]
  simp
 | succ m ih =>
  intro fu j out e hf ho
  obtain ⟨fu, rfl⟩ : ∃ q, fu = q + 1 := ⟨fu - 1, by omega⟩
  have hj : j < l.length := by omega
  have hsz := hs _ (List.getElem_mem hj)
  have e1 := wb l[j].1 l[j].2.1 (bytesL l[j].2.2) (IsBytes.bytesL _) (by rw [u13]; omega)
  rw [u1e] at e1
  simp only [gq80.l5]
  rw [ud (by omega), ct, u10 (u17 (by omega) (by omega)), Int.toNat_natCast, u1b (k := ue) hj, e1, bs, show (⟨#[69]⟩ : ByteArray) = strL [69] from rfl, u10 (u43 (by rw [u11, u11, uea, u13]; simp; omega)), u10 (u28 (by simp; omega)), wr (by omega) (by omega), show ((j : Int) + 1) = ((j + 1 : Nat) : Int) by omega, u27, ih fu (j + 1) _ (by omega) (by omega) (by simp; omega), u18 hj, List.map_cons, List.append_assoc]
  rfl
theorem same_s {R : Type} (kke : Int → Int → Int → List (El ue) → Int → Int → List (El ue) → List ByteArray → Option R) (t v t' v' : Int) (out : List ByteArray) (a b : List (El ue)) (ha : a.length ≤ 1000000) (hb : b.length ≤ 1000000) : ∀ (m fu k : Nat), k + m = a.length → m < fu → gq80.l3 kke fu (k : Int) t v a t' v' b out = kke ((k + u2d (a.drop k) (b.drop k) : Nat) : Int) t v a t' v' b out := by
 intro m
 induction m with
 | zero =>
  intro fu k e hf
  obtain ⟨fu, rfl⟩ : ∃ q, fu = q + 1 := ⟨fu - 1, by omega⟩
  simp only [gq80.l3]
  rw [uf (by omega), cf, List.drop_eq_nil_of_le (show a.length ≤ k by omega)]
  rfl
 | succ m ih =>
  intro fu k e hf
  obtain ⟨fu, rfl⟩ : ∃ q, fu = q + 1 := ⟨fu - 1, by omega⟩
  simp only [gq80.l3]
  have hk : k < a.length := by omega
  rw [ud (by omega), ct]
  by_cases hkb : k < b.length
  ·rw [ud (by omega), ct, u10 (u17 (by omega) (by omega)), u10 (u17 (by omega) (by omega)), Int.toNat_natCast, u1b (k := ue) hk, u1b (k := ue) hkb, wr (by omega) (by omega), u18 hk, u18 hkb]
   show cond (eqE a[k] b[k]) _ _ = _
   simp only [u2d]
   cases eqE a[k] b[k] with
   | true =>
    rw [ct, ct, show ((k : Int) + 1) = ((k + 1 : Nat) : Int) by omega, ih fu (k + 1) (by omega) (by omega)]
    congr 2
    omega
   | false => rfl
  ·rw [uf (by omega), cf, List.drop_eq_nil_of_le (show b.length ≤ k by omega), va6]
   rfl
theorem v8e (t v : Int) (l : List (El ue)) (t' v' : Int) (l' : List (El ue)) (hl : l.length ≤ 1000) (hl' : l'.length ≤ 1000) (hs : ∀ e ∈ l', e.2.2.size ≤ 1000) (hv : -1 ≤ v' ∧ v' ≤ 100) :
  gq80 t v l t' v' l' = some (recV t v l t' v' l') := by
 have hk := v53 l l'
 unfold gq80 gq80.F gq80.j2 gq80.j1
 have fin : ∀ out : List ByteArray, out.length ≤ 10 → gq80.l5 (fun out3 => some out3) fuel (u2d l l' : Int) t' v' l' out = some (out ++ (l'.drop (u2d l l')).map eRec) := by
  intro out ho
  exact ents_s (fun out2 => some out2) t' v' l' hl' hs (l'.length - u2d l l') fuel (u2d l l') out (by omega) (u1c (by omega)) (by omega)
 have mid : ∀ out : List ByteArray, out.length ≤ 5 → gq80.l3 (fun k_ was3 was4 was5 now3 now4 now5 out1 =>
   gq80.j4 (fun k_1 now6 now7 now8 out2 => gq80.l5 (fun out3 => some out3) fuel k_1 now6 now7 now8 out2) k_ was3 was4 was5 now3 now4 now5 out1) fuel (0 : Int) t v l t' v' l' out = some (out ++ cond (decide (u2d l l' < l.length)) [cRec (u2d l l')] [] ++ (l'.drop (u2d l l')).map eRec) := by
  intro out ho
  have e0 := same_s (fun k_ was3 was4 was5 now3 now4 now5 out1 =>
   gq80.j4 (fun k_1 now6 now7 now8 out2 => gq80.l5 (fun out3 => some out3) fuel k_1 now6 now7 now8 out2) k_ was3 was4 was5 now3 now4 now5 out1) t v t' v' out l l' (by omega) (by omega) l.length fuel 0 (by omega) (u1c (by omega))
  rw [Int.natCast_zero, List.drop_zero, List.drop_zero, Nat.zero_add] at e0
  rw [e0]
  unfold gq80.j4
  by_cases hc : u2d l l' < l.length
  ·rw [ud (by omega), ud hc, ct, ct, v36, bs, show (⟨#[67]⟩ : ByteArray) = strL [67] from rfl, u10 (u43 (by rw [u11, u11, u14]; simp)), u10 (u28 (by simp; omega)), u27]
   exact fin _ (by simp; omega)
  ·rw [uf (by omega), uf hc, cf, cf, List.append_nil]
   exact fin _ (by omega)
 unfold recV
 have hor : ∀ (x : Bool) (f : Bool → Option (List ByteArray)), cond x (f true) (f (v != v')) = f (x || (v != v')) := fun x f => by cases x <;> rfl
 have e1 := hor (t != t')
 dsimp only
 refine (e1 (fun b => cond b _ _)).trans ?_
 have eb : [IntKind.wrap .u8 (IntKind.wrap .i64 (v' + 1))] = beL (v' + 1) 1 := by rw [wr (by omega) (by omega), wr8m]; rfl
 cases (t != t' || v != v') with
 | true =>
  rw [ct, ct, v36, bs, eb, show (⟨#[84]⟩ : ByteArray) = strL [84] from rfl, u10 (u43 (by rw [u11, u11, u14]; simp)), u27, u10 (u43 (by rw [u11, u11, List.length_append, u14, u14]; simp)), u27, u10 (u28 (by simp))]
  exact mid _ (by simp)
 | false =>
  rw [cf, cf]
  exact mid [] (by simp)
def syncV (l : List (El u4)) : List (El u4) := match (segs l).getLast? with | none => l | some f => syV l f.1
theorem w2c {room : Int} {l : List (El u4)} (h : DK room l) : gq81 room l = some (room, syncV l) := by
 have h8 := h.len
 have hs := u59 l
 unfold gq81 gq81.F syncV
 rw [v2a room l (by omega) h.fit, bs, List.length_map]
 rcases u72 (l := l) with h1 | ⟨S, k, hk, h1, h2⟩
 ·rw [h1]
  rfl
 ·have hg : (segs l).getLast? = some l[k] := by rw [h1]; simp
  have hr := u33 l[k].1
  have hn : (segs l).length = S.length + 1 := by rw [h1]; simp
  rw [hg, hn, show (((S.length + 1 : Nat) : Int) == 0) = false by rw [beq_eq_false_iff_ne]; omega, cf, wr (x := ((S.length + 1 : Nat) : Int) - 1) (by omega) (by omega), show ((S.length + 1 : Nat) : Int) - 1 = (S.length : Int) by omega, u10 (u17 (by omega) (by omega)), Int.toNat_natCast]
  have er : rdE (.int .i64 : Kd) ((segs l).map fun f => segB f.1) S.length = segB l[k].1 := by
   rw [u1b (k := .int .i64) (l := (segs l).map fun f => segB f.1) (by rw [List.length_map]; omega)]
   simp [h1]
  have hh : has l l[k].1 = true := by
   unfold has
   rw [List.any_eq_true]
   exact ⟨l[k], List.getElem_mem hk, u2f _⟩
  rw [er, nm_s _ hr.1 hr.2, bs, ← u67 h2, uf3 h hh 0 ByteArray.empty ByteArray.empty [], bs]
theorem DP.syncV {room : Int} {l : List (El u4)} (h : DP room l) : DP room (syncV l) := by
 unfold Go.Proofs.YtaanadbpnmcbcaaGreatDoorA.syncV
 cases (segs l).getLast? with
 | none => exact h
 | some f => exact h.sync f.1
def u96 (room : Int) : List (El u4) → List ByteArray → Int × List (El u4)
 | l, [] => (0, l)
 | l, r :: q => cond ((wapV room l r).2.2 != 0) ((wapV room l r).2.2, []) (u96 room (wapV room l r).2.1 q)
theorem w9 {R : Type} (kke : Int → List (El u4) → Int → Option R) (kkr : Int → Int → Option R) (room : Int) (L : List ByteArray) (hL : L.length ≤ 1000) (hs : ∀ r ∈ L, r.size ≤ 65536) (i1 : Int) : ∀ (m fu j : Nat) (l : List (El u4)), j + m = L.length → m < fu → DP room l →
  gq34.l1 kke kkr fu (j : Int) room l i1 L = cond ((u96 room l (L.drop j)).1 != 0) (kkr (u96 room l (L.drop j)).1 0) (kke room (u96 room l (L.drop j)).2 i1) := by
 intro m
 induction m with
 | zero =>
  intro fu j l e hf h
  obtain ⟨fu, rfl⟩ : ∃ q, fu = q + 1 := ⟨fu - 1, by omega⟩
  simp only [gq34.l1]
  rw [uf (by omega), cf, List.drop_eq_nil_of_le (by omega)]
  rfl
 | succ m ih =>
  intro fu j l e hf h
  obtain ⟨fu, rfl⟩ : ∃ q, fu = q + 1 := ⟨fu - 1, by omega⟩
  have hj : j < L.length := by omega
  have hz := hs _ (List.getElem_mem hj)
  obtain ⟨F, R, N, T, e1, e2⟩ := check_v h L[j] hz
  simp only [gq34.l1]
  rw [ud (by omega), ct, u10 (u17 (by omega) (by omega)), Int.toNat_natCast, u1b (k := .str) hj, e1, bs, u18 hj]
  simp only [u96, wapV]
  cases hc : chkV l L[j] != 0 with
  | true =>
   rw [ct, ct]
   dsimp only
   rw [hc, ct]
   dsimp only
   rw [hc, ct]
  | false =>
   have hc0 : chkV l L[j] = 0 := by simpa using hc
   obtain ⟨rfl, rfl⟩ := e2 hc0
   rw [cf, cf, u10 (u17 (by omega) (by omega)), planDo_s h hc0, bs, w65 h (ud7 h.dk hc0).1, bs]
   cases hr : (doV room l (uc0 l L[j])).1 != 0 with
   | true => simp only [ct, hr]
   | false =>
    have h2 := doV_dp h (ud7 h.dk hc0).1 (by simpa using hr)
    rw [cf, cf]
    show cond ((0 : Int) != 0) _ _ = _
    rw [show ((0 : Int) != 0) = false from rfl, cf, wr (by omega) (by omega), show ((j : Int) + 1) = ((j + 1 : Nat) : Int) by omega]
    exact ih fu (j + 1) _ (by omega) (by omega) h2
theorem vc9 {room : Int} : ∀ {L : List ByteArray} {l : List (El u4)}, DP room l → (u96 room l L).1 = 0 → DP room (u96 room l L).2
 | [], l, h, _ => h
 | r :: q, l, h, h0 => by
  simp only [u96] at h0 ⊢
  cases hc : (wapV room l r).2.2 != 0 with
  | true =>
   rw [hc, ct] at h0
   have h0 : (wapV room l r).2.2 = 0 := h0
   rw [h0] at hc
   cases hc
  | false =>
   rw [hc, cf] at h0
   rw [cf]
   exact vc9 (wapV_dp h (by simpa using hc)).2 h0
theorem LG.nil : LG [] := ⟨fun g h => by simp at h, fun g h => by simp at h, fun g h => by simp at h, by simp, by simp [allR]⟩
theorem v3f (gs : Gs) (r : ByteArray) : allR (addG gs r) = allR gs ++ [r] := by
 rcases List.eq_nil_or_concat gs with rfl | ⟨a, g, rfl⟩
 ·rfl
 ·rw [List.concat_eq_append, u76]
  split
  ·rw [u23, u23]
   simp [allR]
  ·rw [u23, u23]
   simp [allR]
theorem vd9 (gs : Gs) (r : ByteArray) : (addG gs r).length ≤ gs.length + 1 ∧ gs.length ≤ (addG gs r).length := by
 rcases List.eq_nil_or_concat gs with rfl | ⟨a, g, rfl⟩
 ·exact ⟨by simp [v45], by simp⟩
 ·rw [List.concat_eq_append, u76]
  split
  ·simp
  ·simp
theorem LG.add {gs : Gs} (h : LG gs) {r : ByteArray} (hr : Rec1 r) (h8 : (addG gs r).length ≤ 8) (hc : (allR gs).length ≤ 21) : LG (addG gs r) := by
 have hall : (allR (addG gs r)).length ≤ 22 := by rw [v3f]; simp; omega
 rcases List.eq_nil_or_concat gs with rfl | ⟨a, g, rfl⟩
 ·rw [v45] at *
  refine ⟨fun g hg => ?_, fun g hg => ?_, fun g hg => ?_, by simp, by simp [allR]⟩
  ·obtain rfl := List.mem_singleton.1 hg
   intro x hx
   obtain rfl := List.mem_singleton.1 hx
   exact hr
  ·obtain rfl := List.mem_singleton.1 hg
   simp
  ·obtain rfl := List.mem_singleton.1 hg
   exact ⟨Int.le_refl _, by omega⟩
 ·rw [List.concat_eq_append] at *
  have hs := h.sure g (by simp)
  have hg := h.recs g (by simp)
  have hne := h.ne g (by simp)
  rw [u76] at h8 hall ⊢
  split
  ·rename_i hz
   rw [if_pos hz] at h8 hall
   refine ⟨fun x hx => ?_, fun x hx => ?_, fun x hx => ?_, h8, hall⟩
   ·rcases List.mem_append.1 hx with hx | hx
    ·exact h.recs x (by simp [hx])
    ·obtain rfl := List.mem_singleton.1 hx
     intro y hy
     rcases List.mem_append.1 hy with hy | hy
     ·exact hg y hy
     ·obtain rfl := List.mem_singleton.1 hy
      exact hr
   ·rcases List.mem_append.1 hx with hx | hx
    ·exact h.ne x (by simp [hx])
    ·obtain rfl := List.mem_singleton.1 hx
     simp
   ·rcases List.mem_append.1 hx with hx | hx
    ·exact h.sure x (by simp [hx])
    ·obtain rfl := List.mem_singleton.1 hx
     rw [v7d]
     exact ⟨hs.1, by have := hs.2; show g.2 ≤ _; omega⟩
  ·rename_i hz
   rw [if_neg hz] at h8 hall
   refine ⟨fun x hx => ?_, fun x hx => ?_, fun x hx => ?_, h8, hall⟩
   ·rcases List.mem_append.1 hx with hx | hx
    ·exact h.recs x (by simp [hx])
    ·rcases List.mem_cons.1 hx with rfl | hx
     ·exact hg
     ·obtain rfl := List.mem_singleton.1 hx
      intro y hy
      obtain rfl := List.mem_singleton.1 hy
      exact hr
   ·rcases List.mem_append.1 hx with hx | hx
    ·exact h.ne x (by simp [hx])
    ·rcases List.mem_cons.1 hx with rfl | hx
     ·exact hne
     ·obtain rfl := List.mem_singleton.1 hx
      simp
   ·rcases List.mem_append.1 hx with hx | hx
    ·exact h.sure x (by simp [hx])
    ·rcases List.mem_cons.1 hx with rfl | hx
     ·exact ⟨by show (0 : Int) ≤ (u19 g.1 : Int); omega, Int.le_refl _⟩
     ·obtain rfl := List.mem_singleton.1 hx
      exact ⟨Int.le_refl _, by omega⟩
theorem wV_lg {gs : Gs} (h : LG gs) (n F : Nat) (h0 : 1 ≤ n) (hn : n + gs.length ≤ 100) (hF : F + 22 < 4294967296) (hg : gs ≠ []) : wV (logF n F gs) = ((F : Int), allR gs, nms n gs.length, 0, 0) :=
 wV_log gs n F h.recs h0 hn (by have := h.cnt; omega) hg
theorem chk_lg {gs : Gs} (h : LG gs) {r : ByteArray} (hr : Rec1 r) : chkV (logF 1 0 gs) r = 0 := by
 have hlen := h.len
 have hcnt := h.cnt
 unfold Rec1 at hr
 unfold chkV
 rw [ud (by omega), ud (by omega), Bool.and_self, Bool.not_true, cf]
 rcases List.eq_nil_or_concat gs with rfl | ⟨a, g, rfl⟩
 ·rfl
 ·rw [List.concat_eq_append] at *
  rw [wV_lg h 1 0 (Nat.le_refl _) (by omega) (by omega) (by simp)]
  dsimp only
  rw [show ((0 : Int) != 0) = false from rfl, cf, show decide ((0 : Int) > 0) = false from rfl, cf, uf (by omega), cf, uc4 _ 1 0 (Nat.le_refl _) (by omega)]
  have e1 : logF 1 0 (a ++ [g]) = logF 1 0 a ++ [segF (1 + a.length) (0 + (allR a).length) g.1 g.2] := u2c a [g] 1 0
  rw [e1, List.getLast?_append]
  have hl : a.length + 1 ≤ 8 := by simpa using hlen
  show cond (segB (nmV ((1 + a.length : Nat) : Int)) == 99) 6 0 = 0
  rw [u7b _ (by omega), show (((1 + a.length : Nat) : Int) == 99) = false by rw [beq_eq_false_iff_ne]; omega, cf]
theorem wap_lg {gs : Gs} (h : LG gs) {r : ByteArray} (hr : Rec1 r) (hc : (allR gs).length ≤ 21) :
  ((addG gs r).length ≤ 8 → wapV 3000 (logF 1 0 gs) r = (3000, logF 1 0 (addG gs r), 0)) ∧ (8 < (addG gs r).length → (wapV 3000 (logF 1 0 gs) r).2.2 = 7) := by
 have hlen := h.len
 have hr' := hr
 unfold Rec1 at hr'
 have hfr := u9c r
 have htot : totF (logF 1 0 gs) ≤ 126 * 21 := by
  rw [ua3]
  have := w63 gs h.recs h.ne
  omega
 unfold wapV
 rw [chk_lg h hr, show ((0 : Int) != 0) = false from rfl, cf]
 unfold uc0
 rcases List.eq_nil_or_concat gs with rfl | ⟨a, g, rfl⟩
 ·refine ⟨fun _ => ?_, fun h => by rw [v45] at h; simp at h⟩
  have e := ap_new (n := 1) (F := 0) (gs := []) (r := r) (by simp) (by simp) (by
   rw [ByteArray.size_append, u48, hfr]
   show ((10 + (6 + r.size) : Nat) : Int) ≤ 3000 - 0
   omega)
  have e2 : doV 3000 (logF 1 0 []) (v6e ((segs (logF 1 0 [])).getLast?) (IntKind.wrap .i64 ((wV (logF 1 0 [])).1 + ((wV (logF 1 0 [])).2.1.length : Int))) r) = doV 3000 (logF 1 0 []) [actA (nmV ((1 + ([] : Gs).length : Nat) : Int)) (hdB ((0 + (allR []).length : Nat) : Int) ++ frB r)] := rfl
  rw [e2, u8f, e]
  rfl
 ·rw [List.concat_eq_append] at *
  have hl : a.length + 1 ≤ 8 := by simpa using hlen
  have e1 : logF 1 0 (a ++ [g]) = logF 1 0 a ++ [segF (1 + a.length) (0 + (allR a).length) g.1 g.2] := u2c a [g] 1 0
  have hlast : (segs (logF 1 0 (a ++ [g]))).getLast? = some (segF (1 + a.length) (0 + (allR a).length) g.1 g.2) := by
   rw [uc4 _ 1 0 (Nat.le_refl _) (by omega), e1, List.getLast?_append]
   rfl
  rw [hlast, wV_lg h 1 0 (Nat.le_refl _) (by omega) (by omega) (by simp)]
  dsimp only
  have hsz : ByteArray.size (segF (1 + a.length) (0 + (allR a).length) g.1 g.2).2.1 = u19 g.1 := (u11 _).trans (u57 _ g.1)
  have hseg : u19 g.1 = 10 + (g.1.map fun r => 6 + r.size).sum := rfl
  have hs0 : ((u19 g.1 : Nat) : Int) ≠ 0 := by omega
  have hsl := ufd (h.recs g (by simp))
  unfold v6e
  dsimp only
  rw [hsz, show (((u19 g.1 : Nat) : Int) == 0) = false by rw [beq_eq_false_iff_ne]; exact hs0, cf]
  have hw : IntKind.wrap .i64 (((0 : Nat) : Int) + ((allR (a ++ [g])).length : Int)) = ((0 + (allR (a ++ [g])).length : Nat) : Int) := by
   rw [wr (by omega) (by omega)]
   omega
  rw [hw]
  have hseg1 : segB (segF (1 + a.length) (0 + (allR a).length) g.1 g.2).1 = ((1 + a.length : Nat) : Int) := u7b _ (by omega)
  rw [u76]
  by_cases hz : u19 g.1 + (6 + r.size) ≤ 160
  ·rw [if_pos hz]
   refine ⟨fun _ => ?_, fun h => by simp at h; omega⟩
   rw [hfr, uf (by omega), cf]
   have ht2 : totF (logF 1 0 (a ++ [(g.1, g.2)])) ≤ 126 * 21 := htot
   have e := ap_rec (n := 1) (F := 0) (gs := a) (g := g.1) (s := g.2) (r := r) (by omega) (by rw [hfr]; omega)
   have e' : apV 3000 (logF 1 0 (a ++ [g])) (segF (1 + a.length) (0 + (allR a).length) g.1 g.2).1 (frB r) = (0, logF 1 0 (a ++ [(g.1 ++ [r], g.2)])) := e
   have ed : doV 3000 (logF 1 0 (a ++ [g])) [actA (segF (1 + a.length) (0 + (allR a).length) g.1 g.2).1 (frB r)] = (0, logF 1 0 (a ++ [(g.1 ++ [r], g.2)])) := by
    rw [u8f, e']
    rfl
   rw [ed]
   rfl
  ·rw [if_neg hz, hfr, ud (by omega), ct, hseg1]
   have e3 : ∀ d, doV 3000 (logF 1 0 (a ++ [g])) [actS (segF (1 + a.length) (0 + (allR a).length) g.1 g.2).1, actA (nmV (((1 + a.length : Nat) : Int) + 1)) d] = doV 3000 (logF 1 0 (a ++ [(g.1, (u19 g.1 : Int))])) [actA (nmV ((1 + (a ++ [(g.1, (u19 g.1 : Int))]).length : Nat) : Int)) d] := by
    intro d
    rw [va2]
    have e4 := sy_log (n := 1) (F := 0) (gs := a) (g := g.1) (s := g.2) (by omega)
    have e4' : syV (logF 1 0 (a ++ [g])) (segF (1 + a.length) (0 + (allR a).length) g.1 g.2).1 = logF 1 0 (a ++ [(g.1, (u19 g.1 : Int))]) := e4
    rw [e4']
    congr 4
    rw [List.length_append]
    simp
    omega
   rw [e3]
   have hall : allR (a ++ [(g.1, (u19 g.1 : Int))]) = allR (a ++ [g]) := by rw [u23, u23]; rfl
   have htt : totF (logF 1 0 (a ++ [(g.1, (u19 g.1 : Int))])) = totF (logF 1 0 (a ++ [g])) := by
    rw [ua3, ua3]
    simp
   refine ⟨fun h8 => ?_, fun h8 => ?_⟩
   ·have e5 := ap_new (n := 1) (F := 0) (gs := a ++ [(g.1, (u19 g.1 : Int))]) (r := r) (by simp; omega) (by simp at h8 ⊢; omega) (by
     rw [ByteArray.size_append, u48, hfr, htt]
     omega)
    rw [hall] at e5
    have ed := u8f 3000 (logF 1 0 (a ++ [(g.1, (u19 g.1 : Int))])) (nmV ((1 + (a ++ [(g.1, (u19 g.1 : Int))]).length : Nat) : Int)) (hdB ((0 + (allR (a ++ [g])).length : Nat) : Int) ++ frB r)
    rw [e5] at ed
    rw [ed]
    show ((3000 : Int), logF 1 0 (a ++ [(g.1, (u19 g.1 : Int))] ++ [([r], 0)]), (0 : Int)) = _
    rw [List.append_assoc]
    rfl
   ·have e5 := ap_full (n := 1) (F := 0) (gs := a ++ [(g.1, (u19 g.1 : Int))]) (d := hdB ((0 + (allR (a ++ [g])).length : Nat) : Int) ++ frB r) (by simp; omega) (by simp at h8 ⊢; omega)
    have ed := u8f 3000 (logF 1 0 (a ++ [(g.1, (u19 g.1 : Int))])) (nmV ((1 + (a ++ [(g.1, (u19 g.1 : Int))]).length : Nat) : Int)) (hdB ((0 + (allR (a ++ [g])).length : Nat) : Int) ++ frB r)
    rw [e5, show ((7 : Int) != 0) = true from rfl, ct] at ed
    rw [ed]
    rfl
theorem at_eq (more : List Int) (hb : IsBytes more) (hl : more.length ≤ 1048576) (i n : Int) (h0 : 0 ≤ i) (h1 : i ≤ 1000) (hn : 1 < n) (hn1 : n ≤ 1000) : ∃ v, l_at more i n = some v ∧ 0 ≤ v ∧ v < n := by
 unfold l_at l_at.F
 rw [uf (by omega), cf]
 by_cases hm : more.length = 0
 ·rw [show ((more.length : Int) == 0) = true by rw [beq_iff_eq]; omega, ct, u10 (u61 (by omega)), wr (by omega) (by omega), u35 (by omega)]
  exact ⟨_, rfl, Int.emod_nonneg _ (by omega), Int.emod_lt_of_pos _ (by omega)⟩
 ·have hp : 0 < (more.length : Int) := by omega
  have a1 := Int.emod_nonneg i (show (more.length : Int) ≠ 0 by omega)
  have a2 := Int.emod_lt_of_pos i hp
  have b1 := Int.emod_nonneg (i + 1) (show (more.length : Int) ≠ 0 by omega)
  have b2 := Int.emod_lt_of_pos (i + 1) hp
  have hx : (i % (more.length : Int)).toNat < more.length := by omega
  have hy : ((i + 1) % (more.length : Int)).toNat < more.length := by omega
  have gx := hb.get hx
  have gy := hb.get hy
  have c1 : 0 ≤ i / (more.length : Int) := Int.ediv_nonneg h0 (by omega)
  have c2 : i / (more.length : Int) ≤ i := Int.ediv_le_self _ h0
  rw [show ((more.length : Int) == 0) = false by rw [beq_eq_false_iff_ne]; omega, cf, u10 (u61 (by omega)), wr (x := i + 1) (by omega) (by omega), u35 h0, u35 (by omega), u6e h0, u10 (u17 a1 (by omega)), u10 (u61 (by omega)), u10 (u17 b1 (by omega)), u10 (u61 (by omega)), u10 (u61 (by omega)), u1b (k := .int .u8) hx, u1b (k := .int .u8) hy]
  rw [wr (x := more[(i % (more.length : Int)).toNat]) (by omega) (by omega), wr (x := more[((i + 1) % (more.length : Int)).toNat]) (by omega) (by omega), wr (x := i / (more.length : Int)) (by omega) (by omega), wr (x := more[(i % (more.length : Int)).toNat] * 31) (by omega) (by omega), wr (x := more[(i % (more.length : Int)).toNat] * 31 + more[((i + 1) % (more.length : Int)).toNat]) (by omega) (by omega), wr (by omega) (by omega), u35 (by omega)]
  exact ⟨_, rfl, Int.emod_nonneg _ (by omega), Int.emod_lt_of_pos _ (by omega)⟩
theorem w54 : gq17 3000 = some (3000, [], 0) := by
 unfold gq17 gq17.F
 rw [u58, bs]
 rfl
end Go.Proofs.YtaanadbpnmcbcaaGreatDoorA
