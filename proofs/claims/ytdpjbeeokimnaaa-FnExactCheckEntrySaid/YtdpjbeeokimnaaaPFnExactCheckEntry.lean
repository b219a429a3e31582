import Derived.Test.YtdpjbeeokimnaaaAWord
import Derived.Laws.BytesArg
import Derived.Lib.Strings
import Derived.Test.YtdpjbeeokimnaaaXgF2
/-
  Numbers, bytes and texts as the printed functions use them. No condition.
-/
namespace Go.Proofs.YtdpjbeeokimnaaaA
open Go
set_option linter.unusedVariables false
set_option linter.unusedSimpArgs false

/-! ### Guards -/
/-- These three hold by computing; stated so that a rewriting does not leave that to the kernel. -/
theorem bs {A B : Type} (a : A) (f : A → Option B) : Option.bind (some a) f = f a := id rfl
theorem ct {A : Type} (a b : A) : cond true a b = a := id rfl
theorem cf {A : Type} (a b : A) : cond false a b = b := id rfl
theorem grd_t {R : Type} (x : Option R) : grd true x = x := rfl
theorem grd_of {R : Type} {g : Bool} (h : g = true) (x : Option R) : grd g x = x := by rw [h]; rfl
theorem gIx_t {i : Int} {n : Nat} (h : 0 ≤ i) (h' : i < n) : gIx i n = true := by simp [gIx, h, h']
theorem gSl_t {l h : Int} {n : Nat} (h0 : 0 ≤ l) (h1 : l ≤ h) (h2 : h ≤ n) : gSl l h n = true := by simp [gSl, h0, h1, h2]
theorem gRm_t {n : Nat} (h : n ≤ 140737488355328) : gRm n = true := by simp [gRm, h]
theorem gCat_t {x y : ByteArray} (h : x.size + y.size ≤ 9223372036854775807) : gCat x y = true := by
  unfold gCat
  rw [decide_eq_true_iff]
  omega
theorem gSh_t {y : Int} (h : 0 ≤ y) : gSh y = true := by simp [gSh, h]
theorem gNz_t {y : Int} (h : y ≠ 0) : gNz y = true := by simp [gNz, h]
theorem gMk_t {l c : Int} {b : Nat} (h0 : 0 ≤ l) (h1 : l ≤ c) (h2 : c * b ≤ 140737488355328) : gMk l c b = true := by simp [gMk, h0, h1, h2]
theorem wr {x : Int} (h : -9223372036854775808 ≤ x) (h' : x ≤ 9223372036854775807) : IntKind.wrap .i64 x = x := by
  simp only [IntKind.wrap, IntKind.signed, IntKind.bits]
  simp
  omega
theorem wr8 {x : Int} (h : 0 ≤ x) (h' : x < 256) : IntKind.wrap .u8 x = x := by
  simp only [IntKind.wrap, IntKind.signed, IntKind.bits]
  simp
  omega
theorem wr8m (x : Int) : IntKind.wrap .u8 x = x % 256 := by
  simp only [IntKind.wrap, IntKind.signed, IntKind.bits]
  simp
theorem wr32m (x : Int) : IntKind.wrap .u32 x = x % 4294967296 := by
  simp only [IntKind.wrap, IntKind.signed, IntKind.bits]
  simp
theorem shl_eq {x : Int} {n : Int} (h0 : 0 ≤ n) (h1 : n ≤ 64) : iShl .i64 x n = IntKind.wrap .i64 (x * 2 ^ n.toNat) := by
  unfold iShl
  congr 3
  simp [IntKind.bits]
  omega
theorem shr_eq {x : Int} {n : Int} (h0 : 0 ≤ n) (h1 : n ≤ 64) : iShr .i64 x n = x / 2 ^ n.toNat := by
  unfold iShr
  rw [show min n.toNat (IntKind.bits .i64) = n.toNat by simp [IntKind.bits]; omega]
  rw [Int.fdiv_eq_ediv_of_nonneg]
  exact Int.pow_nonneg (by decide)
theorem shr8 (x : Int) : iShr .i64 x 8 = x / 256 := by rw [shr_eq (by decide) (by decide)]; rfl
theorem shr16 (x : Int) : iShr .i64 x 16 = x / 65536 := by rw [shr_eq (by decide) (by decide)]; rfl
theorem shr24 (x : Int) : iShr .i64 x 24 = x / 16777216 := by rw [shr_eq (by decide) (by decide)]; rfl
theorem shl8 (x : Int) : iShl .i64 x 8 = IntKind.wrap .i64 (x * 256) := by rw [shl_eq (by decide) (by decide)]; rfl
theorem tmod_pos {x y : Int} (h : 0 ≤ x) : Int.tmod x y = x % y := Int.tmod_eq_emod_of_nonneg h
theorem tdiv_pos {x y : Int} (h : 0 ≤ x) : Int.tdiv x y = x / y := Int.tdiv_eq_ediv_of_nonneg h

/-! ### Bytes -/
def IsBytes (l : List Int) : Prop := ∀ y ∈ l, 0 ≤ y ∧ y < 256
theorem IsBytes.nil : IsBytes [] := fun y h => by simp at h
theorem IsBytes.cons {a : Int} {l : List Int} (h0 : 0 ≤ a) (h1 : a < 256) (h : IsBytes l) : IsBytes (a :: l) := fun y hy => by
  rcases List.mem_cons.1 hy with rfl | hy
  · exact ⟨h0, h1⟩
  · exact h y hy
theorem IsBytes.append {l m : List Int} (h : IsBytes l) (h' : IsBytes m) : IsBytes (l ++ m) := fun y hy => (List.mem_append.1 hy).elim (h y) (h' y)
theorem IsBytes.left {l m : List Int} (h : IsBytes (l ++ m)) : IsBytes l := fun y hy => h y (List.mem_append.2 (.inl hy))
theorem IsBytes.right {l m : List Int} (h : IsBytes (l ++ m)) : IsBytes m := fun y hy => h y (List.mem_append.2 (.inr hy))
theorem IsBytes.drop {l : List Int} (h : IsBytes l) (n : Nat) : IsBytes (l.drop n) := fun y hy => h y (List.mem_of_mem_drop hy)
theorem IsBytes.take {l : List Int} (h : IsBytes l) (n : Nat) : IsBytes (l.take n) := fun y hy => h y (List.mem_of_mem_take hy)
theorem IsBytes.sub {l : List Int} (h : IsBytes l) (a b : Int) : IsBytes (sub l a b) := (h.take _).drop _
theorem IsBytes.get {l : List Int} (h : IsBytes l) {i : Nat} (hi : i < l.length) : 0 ≤ l[i] ∧ l[i] < 256 := h _ (List.getElem_mem _)
theorem IsBytes.bytesL (s : ByteArray) : IsBytes (bytesL s) := fun y hy => by
  obtain ⟨b, _, rfl⟩ := List.mem_map.1 hy
  have := b.toNat_lt
  omega
theorem isBytes_of_wf {l : List Int} (h : ∀ y ∈ l, (Lit.int .u8 y).wf = true) : IsBytes l := fun y hy => by
  have := h y hy
  simp [Lit.wf, IntKind.min, IntKind.max, IntKind.signed, IntKind.bits] at this
  omega
theorem ba_ext {a b : ByteArray} (h : a.data.toList = b.data.toList) : a = b := by
  obtain ⟨⟨l⟩⟩ := a
  obtain ⟨⟨m⟩⟩ := b
  simp at h
  subst h
  rfl
theorem strL_size (l : List Int) : (strL l).size = l.length := by
  show (List.toArray _).size = _
  simp
theorem bytesL_length (s : ByteArray) : (bytesL s).length = s.size := by simp [bytesL]
theorem strL_list (l : List Int) : (strL l).data.toList = l.map fun n => UInt8.ofNat n.toNat := by simp [strL]
theorem strL_bytesL (s : ByteArray) : strL (bytesL s) = s := by
  apply ba_ext
  rw [strL_list, bytesL, List.map_map]
  conv => rhs; rw [← List.map_id s.data.toList]
  apply List.map_congr_left
  intro b _
  simp
theorem bytesL_strL {l : List Int} (h : IsBytes l) : bytesL (strL l) = l := by
  unfold bytesL
  rw [strL_list, List.map_map]
  conv => rhs; rw [← List.map_id l]
  apply List.map_congr_left
  intro b hb
  have := h b hb
  simp
  omega
theorem strL_append (l m : List Int) : strL l ++ strL m = strL (l ++ m) := by
  apply ba_ext
  rw [ByteArray.data_append, Array.toList_append, strL_list, strL_list, strL_list, List.map_append]
theorem bytesL_append (s t : ByteArray) : bytesL (s ++ t) = bytesL s ++ bytesL t := by
  unfold bytesL
  rw [ByteArray.data_append, Array.toList_append, List.map_append]
theorem strL_nil : strL [] = ByteArray.empty := rfl
theorem cut_strL (l : List Int) (a b : Int) : cut (strL l) a b = strL (sub l a b) := by
  apply ba_ext
  unfold cut sub
  rw [Lib.extract_data, strL_list, strL_list, ← List.map_drop, ← List.map_take, List.drop_take]
theorem byteAt_strL {l : List Int} (h : IsBytes l) {i : Int} (h0 : 0 ≤ i) (h1 : i < l.length) : byteAt (strL l) i = l.getD i.toNat 0 := by
  have hi : i.toNat < l.length := by omega
  have hs : i.toNat < (strL l).size := by rw [strL_size]; exact hi
  unfold byteAt
  rw [dif_pos hs]
  have e : (strL l)[i.toNat]'hs = UInt8.ofNat (l[i.toNat]).toNat := by
    show (strL l).data[i.toNat]'_ = _
    simp [strL]
  rw [e, List.getD_eq_getElem?_getD, List.getElem?_eq_getElem hi]
  have := h l[i.toNat] (List.getElem_mem _)
  simp
  omega
theorem sEq_iff {a b : ByteArray} : sEq a b = true ↔ a = b := by
  unfold sEq
  rw [beq_iff_eq]
  constructor
  · intro h
    apply ba_ext
    rwa [ByteArray.toList_eq, ByteArray.toList_eq] at h
  · rintro rfl; rfl
theorem sEq_self (a : ByteArray) : sEq a a = true := sEq_iff.2 rfl
theorem strL_inj {l m : List Int} (hl : IsBytes l) (hm : IsBytes m) (h : strL l = strL m) : l = m := by rw [← bytesL_strL hl, ← bytesL_strL hm, h]
theorem bytesL_inj {s t : ByteArray} (h : bytesL s = bytesL t) : s = t := by rw [← strL_bytesL s, ← strL_bytesL t, h]
theorem sEq_strL {l m : List Int} (hl : IsBytes l) (hm : IsBytes m) : sEq (strL l) (strL m) = decide (l = m) := by
  rw [Bool.eq_iff_iff, sEq_iff, decide_eq_true_iff]
  exact ⟨strL_inj hl hm, fun h => by rw [h]⟩
theorem sEq_dec (a b : ByteArray) : sEq a b = decide (a = b) := by rw [Bool.eq_iff_iff, sEq_iff, decide_eq_true_iff]

/-! ### Rows -/
theorem sub_all {α : Type} (l : List α) {n : Int} (h : n = l.length) : sub l 0 n = l := by subst h; simp [sub]
theorem sub_take {α : Type} (l : List α) (n : Int) : sub l 0 n = l.take n.toNat := by simp [sub]
theorem sub_drop {α : Type} (l : List α) (n : Int) {m : Int} (h : m = l.length) : sub l n m = l.drop n.toNat := by subst h; simp [sub]
theorem sub_length {α : Type} (l : List α) {a b : Int} (h0 : 0 ≤ a) (h1 : a ≤ b) (h2 : b ≤ l.length) : ((sub l a b).length : Int) = b - a := by
  simp [sub]
  omega
theorem rdE_at {k : Kd} {l : List (El k)} {i : Nat} (h : i < l.length) : rdE k l i = l[i] := by
  unfold rdE
  rw [List.getD_eq_getElem?_getD, List.getElem?_eq_getElem h]
  rfl
theorem rdE_map {k k' : Kd} (f : El k → El k') {l : List (El k)} {i : Nat} (h : i < l.length) : rdE k' (l.map f) i = f (rdE k l i) := by
  rw [rdE_at h, rdE_at (by simpa using h)]
  simp
theorem take_snoc {α : Type} {l : List α} {i : Nat} (h : i < l.length) : l.take (i + 1) = l.take i ++ [l[i]] := by
  rw [List.take_add_one, List.getElem?_eq_getElem h]
  rfl
theorem take_rdE {k : Kd} {l : List (El k)} {i : Nat} (h : i < l.length) : l.take (i + 1) = l.take i ++ [rdE k l i] := by rw [rdE_at h, take_snoc h]
theorem drop_cons {α : Type} {l : List α} {i : Nat} (h : i < l.length) : l.drop i = l[i] :: l.drop (i + 1) := List.drop_eq_getElem_cons h
theorem decide_t {p : Prop} [Decidable p] (h : p) : decide p = true := decide_eq_true h
theorem decide_f {p : Prop} [Decidable p] (h : ¬ p) : decide p = false := decide_eq_false h
end Go.Proofs.YtdpjbeeokimnaaaA

/-
  Numbers in bytes, and back: what the printed functions 'number', 'numberOf', 'within' compute. No condition.
-/
namespace Go.Proofs.YtdpjbeeokimnaaaA
open Go
set_option linter.unusedVariables false
set_option linter.unusedSimpArgs false

theorem fuel_gt {n : Nat} (h : n < 18446744073709551616) : ∃ m, fuel = n + m + 1 := ⟨fuel - n - 1, by rw [fuel_eq]; omega⟩
theorem pow256_le {a b : Nat} (h : a ≤ b) : (256 : Int) ^ a ≤ 256 ^ b := by
  have h2 : ((256 ^ a : Nat) : Int) ≤ ((256 ^ b : Nat) : Int) := Int.ofNat_le.2 (Nat.pow_le_pow_right (n := 256) (by decide) h)
  rw [Int.natCast_pow, Int.natCast_pow] at h2
  exact h2
/-- A number in so many bytes, the highest first. -/
def beL (n : Int) : Nat → List Int
  | 0 => []
  | m + 1 => beL (n / 256) m ++ [n % 256]
theorem beL_length (n : Int) (m : Nat) : (beL n m).length = m := by
  induction m generalizing n with
  | zero => rfl
  | succ m ih => simp [beL, ih]
theorem beL_bytes (n : Int) (m : Nat) : IsBytes (beL n m) := by
  induction m generalizing n with
  | zero => exact IsBytes.nil
  | succ m ih => exact (ih _).append (IsBytes.cons (by omega) (by omega) IsBytes.nil)
/-- The number that bytes tell, behind what there is. -/
def beN : Int → List Int → Int
  | a, [] => a
  | a, x :: xs => beN (a * 256 + x) xs
theorem beN_append (a : Int) (l m : List Int) : beN a (l ++ m) = beN (beN a l) m := by
  induction l generalizing a with
  | nil => rfl
  | cons x l ih => exact ih _
theorem beN_beL (n : Int) (m : Nat) (h0 : 0 ≤ n) (h : n < 256 ^ m) : beN 0 (beL n m) = n := by
  induction m generalizing n with
  | zero => simp [beL, beN] at *; omega
  | succ m ih =>
    rw [beL, beN_append, ih (n / 256) (by omega) (by rw [Int.pow_succ] at h; omega)]
    simp [beN]
    omega
theorem beN_bounds : ∀ (l : List Int) (a : Int), IsBytes l → 0 ≤ a → 0 ≤ beN a l ∧ beN a l < (a + 1) * 256 ^ l.length
  | [], a, _, ha => by simp [beN]; omega
  | x :: xs, a, h, ha => by
    have hx := h x List.mem_cons_self
    have ih := beN_bounds xs (a * 256 + x) (fun y hy => h y (List.mem_cons_of_mem _ hy)) (by omega)
    refine ⟨ih.1, Int.lt_of_lt_of_le ih.2 ?_⟩
    have e : (a + 1) * 256 ^ (x :: xs).length = ((a + 1) * 256) * 256 ^ xs.length := by
      rw [List.length_cons, Int.pow_succ, Int.mul_comm (256 ^ xs.length) 256, Int.mul_assoc]
    rw [e]
    exact Int.mul_le_mul_of_nonneg_right (by omega) (Int.pow_nonneg (by decide))
theorem beL_beN (l : List Int) (h : IsBytes l) : beL (beN 0 l) l.length = l := by
  have key : ∀ (k : Nat) (l : List Int), l.length = k → IsBytes l → beL (beN 0 l) l.length = l := by
    intro k
    induction k with
    | zero => intro l hl _; rw [List.length_eq_zero_iff.1 hl]; rfl
    | succ k ih =>
      intro l hl h
      have hne : l ≠ [] := by intro e; subst e; simp at hl
      obtain ⟨m, x, rfl⟩ : ∃ m x, l = m ++ [x] := ⟨l.dropLast, l.getLast hne, (List.dropLast_concat_getLast hne).symm⟩
      have hm : m.length = k := by simpa using hl
      have hx := h x (by simp)
      have e1 : beN 0 (m ++ [x]) = beN 0 m * 256 + x := by rw [beN_append]; rfl
      have e2 : (beN 0 m * 256 + x) / 256 = beN 0 m := by omega
      have e3 : (beN 0 m * 256 + x) % 256 = x := by omega
      rw [e1, List.length_append, List.length_singleton, beL, e2, e3, ih m hm h.left]
  exact key _ l rfl h
theorem number_l1 {R : Type} (kk : List Int → Option R) : ∀ (j n : Nat) (x : Int) (out : List Int), j ≤ out.length → j < 1000 → j < n → i_number.l1 kk n x ((j : Int) - 1) out = kk (beL x j ++ out.drop j)
  | 0, n + 1, x, out, _, _, _ => by
    simp only [i_number.l1, decide_f (show ¬ ((0 : Nat) : Int) - 1 ≥ 0 by omega), cond_false]
    simp [beL]
  | j + 1, n + 1, x, out, h1, h2, h3 => by
    have e : (((j + 1 : Nat) : Int) - 1) = j := by omega
    rw [e]
    simp only [i_number.l1]
    rw [decide_t (by omega : (j : Int) ≥ 0), cond_true, grd_of (gIx_t (by omega) (by omega)), grd_of (gSh_t (by omega)), wr (by omega) (by omega), shr8, wr8m]
    rw [number_l1 kk j n (x / 256) _ (by simp [setE]; omega) (by omega) (by omega)]
    congr 1
    have hj : j < out.length := by omega
    simp only [setE, Int.toNat_natCast, beL, List.append_assoc]
    congr 1
    rw [List.drop_set_of_lt_drop hj]
where
  List.drop_set_of_lt_drop {out : List Int} {j : Nat} {a : Int} (hj : j < out.length) : (out.set j a).drop j = [a] ++ out.drop (j + 1) := by
    rw [List.drop_eq_getElem_cons (by simpa using hj), List.getElem_set_self, List.drop_set_of_lt (by omega)]
    rfl
theorem number_eq (x : Int) (m : Nat) (h : m < 1000) : i_number x m = some (strL (beL x m)) := by
  obtain ⟨q, hq⟩ := fuel_gt (n := m) (by omega)
  have hl : (List.replicate (Int.toNat (m : Int)) (0 : Int)).length = m := by simp
  unfold i_number i_number.F
  rw [grd_of (gMk_t (by omega) (by omega) (by omega)), wr (by omega) (by omega), number_l1 _ m fuel x _ (by omega) h (by omega)]
  congr 2
  rw [List.drop_of_length_le (by omega), List.append_nil]
theorem numberOf_l1 {R : Type} (kk : Int → Option R) (l : List Int) (h : IsBytes l) (hl : l.length ≤ 7) : ∀ (j n : Nat) (a : Int), j ≤ l.length → j < n → 0 ≤ a → a < 256 ^ (l.length - j) →
    i_numberOf.l1 kk n (strL l) a l.length ((l.length - j : Nat) : Int) = kk (beN a (l.drop (l.length - j)))
  | 0, n + 1, a, _, _, _, _ => by
    simp only [i_numberOf.l1, Nat.sub_zero, decide_f (show ¬ (l.length : Int) < l.length by omega), cond_false, List.drop_length, beN]
  | j + 1, n + 1, a, h1, h2, h3, h4 => by
    have hi : l.length - (j + 1) < l.length := by omega
    have hb := h.get hi
    have h6 : a < 256 ^ 6 := Int.lt_of_lt_of_le h4 (by
      have : (256 : Int) ^ (l.length - (j + 1)) ≤ 256 ^ 6 := pow256_le (by omega)
      exact this)
    simp only [i_numberOf.l1]
    rw [decide_t (by omega : ((l.length - (j + 1) : Nat) : Int) < l.length), cond_true, grd_of (gSh_t (by omega)), grd_of (gIx_t (by omega) (by rw [strL_size]; omega)), byteAt_strL h (by omega) (by omega), shl8]
    have e0 : l.getD (Int.toNat ((l.length - (j + 1) : Nat) : Int)) 0 = l[l.length - (j + 1)] := by
      rw [Int.toNat_natCast, List.getD_eq_getElem?_getD, List.getElem?_eq_getElem hi]; rfl
    rw [e0]
    have e1 : IntKind.wrap .i64 (a * 256) = a * 256 := wr (by omega) (by omega)
    rw [e1, wr (x := l[l.length - (j + 1)]) (by omega) (by omega), wr (x := a * 256 + l[l.length - (j + 1)]) (by omega) (by omega), wr (by omega) (by omega)]
    have e2 : (((l.length - (j + 1) : Nat) : Int) + 1) = ((l.length - j : Nat) : Int) := by omega
    rw [e2, numberOf_l1 kk l h hl j n _ (by omega) (by omega) (by omega) ?_]
    · rw [drop_cons hi, show l.length - (j + 1) + 1 = l.length - j by omega]
      rfl
    · have : (256 : Int) ^ (l.length - j) = 256 ^ (l.length - (j + 1)) * 256 := by
        rw [← Int.pow_succ]; congr 1; omega
      rw [this]
      omega
theorem numberOf_eq (l : List Int) (h : IsBytes l) (hl : l.length ≤ 7) : i_numberOf (strL l) = some (beN 0 l) := by
  unfold i_numberOf i_numberOf.F
  rw [strL_size]
  have := numberOf_l1 (fun n_ => some n_) l h hl l.length fuel 0 (Nat.le_refl _) (by rw [fuel_eq]; omega) (by omega) (by simp)
  simpa using this
theorem within_eq (n lo hi : Int) : i_within n lo hi = some (decide (lo ≤ n) && decide (n ≤ hi)) := by
  unfold i_within i_within.F
  by_cases h : n ≥ lo
  · simp [h]
  · simp [h]
theorem l01In_eq (n lo hi : Int) : s_l01In n lo hi = some (decide (lo ≤ n) && decide (n ≤ hi)) := by
  unfold s_l01In s_l01In.F
  by_cases h : n ≥ lo
  · simp [h]
  · simp [h]
end Go.Proofs.YtdpjbeeokimnaaaA

/-
  SHA-256: words, and a block of 64 bytes: the program's and the reference's. No condition.
-/
namespace Go.Proofs.YtdpjbeeokimnaaaA
open Go
set_option linter.unusedVariables false
set_option linter.unusedSimpArgs false

/-! ### Words -/
theorem bits32 (f : BitVec 32 → BitVec 32 → BitVec 32) (x y : Int) : bits .u32 f x y = ((f (BitVec.ofInt 32 x) (BitVec.ofInt 32 y)).toNat : Int) := by
  show IntKind.wrap .u32 ((f (BitVec.ofInt 32 x) (BitVec.ofInt 32 y)).toNat : Int) = _
  rw [wr32m]
  have := (f (BitVec.ofInt 32 x) (BitVec.ofInt 32 y)).isLt
  omega
theorem w32 (b : BitVec 32) : BitVec.ofInt 32 (b.toNat : Int) = b := by
  rw [BitVec.ofInt_natCast, BitVec.ofNat_toNat, BitVec.setWidth_eq]
theorem and32 (x y : Int) : iAnd .u32 x y = ((BitVec.ofInt 32 x &&& BitVec.ofInt 32 y).toNat : Int) := bits32 _ x y
theorem or32 (x y : Int) : iOr .u32 x y = ((BitVec.ofInt 32 x ||| BitVec.ofInt 32 y).toNat : Int) := bits32 _ x y
theorem xor32 (x y : Int) : iXor .u32 x y = ((BitVec.ofInt 32 x ^^^ BitVec.ofInt 32 y).toNat : Int) := bits32 _ x y
theorem or32_comm (x y : Int) : iOr .u32 x y = iOr .u32 y x := by rw [or32, or32, BitVec.or_comm]
theorem max32 : BitVec.ofInt 32 (IntKind.max .u32) = BitVec.allOnes 32 := by decide
theorem ch32 (e f g : Int) : iXor .u32 (iAnd .u32 e f) (iAnd .u32 (iXor .u32 (IntKind.max .u32) e) g) = iOr .u32 (iAnd .u32 e f) (iAnd .u32 (iXor .u32 (IntKind.max .u32) e) g) := by
  simp only [and32, or32, xor32, w32, max32]
  congr 2
  ext i hi
  simp only [BitVec.getElem_xor, BitVec.getElem_and, BitVec.getElem_or, BitVec.getElem_allOnes]
  cases (BitVec.ofInt 32 e)[i] <;> cases (BitVec.ofInt 32 f)[i] <;> cases (BitVec.ofInt 32 g)[i] <;> rfl
theorem maj32 (a b c : Int) : iXor .u32 (iXor .u32 (iAnd .u32 a b) (iAnd .u32 a c)) (iAnd .u32 b c) = iOr .u32 (iOr .u32 (iAnd .u32 a b) (iAnd .u32 a c)) (iAnd .u32 b c) := by
  simp only [and32, or32, xor32, w32]
  congr 2
  ext i hi
  simp only [BitVec.getElem_xor, BitVec.getElem_and, BitVec.getElem_or]
  cases (BitVec.ofInt 32 a)[i] <;> cases (BitVec.ofInt 32 b)[i] <;> cases (BitVec.ofInt 32 c)[i] <;> rfl
def rot (x b : Int) : Int := iOr .u32 (iShr .u32 x b) (iShl .u32 x (32 - b))
def Turns : List Int := [7, 18, 17, 19, 6, 11, 25, 2, 13, 22]
theorem rot_s (x b : Int) (h : b ∈ Turns) : s_l01Turn x b = some (rot x b) := by
  have h0 : 0 ≤ b ∧ b ≤ 32 := by
    simp only [Turns, List.mem_cons, List.mem_nil_iff, or_false] at h
    omega
  unfold s_l01Turn s_l01Turn.F
  have e : IntKind.wrap .u64 (32 - b) = 32 - b := by
    simp only [IntKind.wrap, IntKind.signed, IntKind.bits]
    simp
    omega
  rw [e, grd_of (gSh_t h0.1), grd_of (gSh_t (by omega))]
  rfl
theorem rot_i (x b : Int) (h : b ∈ Turns) : i_turned x b = some (rot x b) := by
  unfold i_turned i_turned.F math_bits_RotateLeft32 math_bits_RotateLeft32.F
  have e : iAnd .u64 (IntKind.wrap .u64 (IntKind.wrap .i64 (0 - b))) 31 = 32 - b ∧ IntKind.wrap .u64 (32 - (32 - b)) = b ∧ 0 ≤ b ∧ b ≤ 32 := by
    simp only [Turns, List.mem_cons, List.mem_nil_iff, or_false] at h
    rcases h with rfl | rfl | rfl | rfl | rfl | rfl | rfl | rfl | rfl | rfl <;> exact ⟨by decide, by decide, by decide, by decide⟩
  rw [e.1, e.2.1, grd_of (gSh_t (by omega)), grd_of (gSh_t e.2.2.1), bs, or32_comm]
  rfl

/-! ### Loops that step -/
def itF {S : Type} (step : Nat → S → S) : Nat → Nat → S → S
  | _, 0, s => s
  | i, m + 1, s => itF step (i + 1) m (step i s)
theorem it_loop {R S : Type} {L : Nat → Int → S → Option R} {N : Nat} {step : Nat → S → S} {fin : S → Option R} (Inv : S → Prop)
    (hs : ∀ n i s, i < N → Inv s → L (n + 1) (i : Int) s = L n ((i + 1 : Nat) : Int) (step i s) ∧ Inv (step i s)) (h0 : ∀ n s, Inv s → L (n + 1) (N : Int) s = fin s) :
    ∀ (m n i : Nat) (s : S), i + m = N → m < n → Inv s → L n i s = fin (itF step i m s) ∧ Inv (itF step i m s)
  | 0, n + 1, i, s, e, _, hi => by
    have : i = N := by omega
    subst this
    exact ⟨h0 n s hi, hi⟩
  | m + 1, n + 1, i, s, e, hn, hi => by
    obtain ⟨h1, h2⟩ := hs n i s (by omega) hi
    rw [h1]
    exact it_loop Inv hs h0 m n (i + 1) _ (by omega) (by omega) h2
theorem itF_congr {S : Type} {step step' : Nat → S → S} (Inv : S → Prop) : ∀ (m i : Nat) (s : S), (∀ j s, i ≤ j → j < i + m → Inv s → step j s = step' j s ∧ Inv (step j s)) → Inv s → itF step i m s = itF step' i m s ∧ Inv (itF step i m s)
  | 0, i, s, h, hi => ⟨rfl, hi⟩
  | m + 1, i, s, h, hi => by
    obtain ⟨h1, h2⟩ := h i s (Nat.le_refl _) (by omega) hi
    have := itF_congr Inv m (i + 1) (step i s) (fun j s hj hj' hs => h j s (by omega) (by omega) hs) h2
    refine ⟨?_, this.2⟩
    show itF step (i + 1) m (step i s) = itF step' (i + 1) m (step' i s)
    rw [this.1, h1]
theorem itF_add {S : Type} (step : Nat → S → S) : ∀ (m k i : Nat) (s : S), itF step i (m + k) s = itF step (i + m) k (itF step i m s)
  | 0, k, i, s => by rw [Nat.zero_add]; rfl
  | m + 1, k, i, s => by
    rw [show m + 1 + k = (m + k) + 1 by omega, show i + (m + 1) = (i + 1) + m by omega]
    exact itF_add step m k (i + 1) (step i s)

/-! ### The words of a block -/
abbrev k32 : Kd := .int .u32
def wB (b : List Int) (i : Nat) : Int :=
  iOr .u32 (iOr .u32 (iOr .u32 (iShl .u32 (IntKind.wrap .u32 (b.getD (4 * i) 0)) 24) (iShl .u32 (IntKind.wrap .u32 (b.getD (4 * i + 1) 0)) 16)) (iShl .u32 (IntKind.wrap .u32 (b.getD (4 * i + 2) 0)) 8)) (IntKind.wrap .u32 (b.getD (4 * i + 3) 0))
def wX (w : List Int) (i : Nat) : Int :=
  IntKind.wrap .u32 ((IntKind.wrap .u32 ((IntKind.wrap .u32 ((rdE k32 w (i - 16)) + (iXor .u32 (iXor .u32 (rot (rdE k32 w (i - 15)) 7) (rot (rdE k32 w (i - 15)) 18)) (iShr .u32 (rdE k32 w (i - 15)) 3)))) + (rdE k32 w (i - 7)))) + (iXor .u32 (iXor .u32 (rot (rdE k32 w (i - 2)) 17) (rot (rdE k32 w (i - 2)) 19)) (iShr .u32 (rdE k32 w (i - 2)) 10)))
def stA (b : List Int) (i : Nat) (w : List Int) : List Int := setE k32 w i (wB b i)
def stX (i : Nat) (w : List Int) : List Int := setE k32 w i (wX w i)
def stW (b : List Int) (i : Nat) (w : List Int) : List Int := if i < 16 then stA b i w else stX i w
def wsOf (b : List Int) : List Int := itF stX 16 48 (itF (stA b) 0 16 (List.replicate 64 0))
theorem stA_len {b : List Int} {i : Nat} {w : List Int} (h : w.length = 64) : (stA b i w).length = 64 := by simp [stA, setE, h]
theorem stX_len {i : Nat} {w : List Int} (h : w.length = 64) : (stX i w).length = 64 := by simp [stX, setE, h]
theorem wsOf_eq (b : List Int) : itF (stW b) 0 64 (List.replicate 64 0) = wsOf b ∧ (wsOf b).length = 64 := by
  have h1 := itF_congr (step := stW b) (step' := stA b) (fun w => w.length = 64) 16 0 (List.replicate 64 0) (fun j s _ hj hs => by
    rw [stW, if_pos (by omega)]
    exact ⟨rfl, stA_len hs⟩) (by simp)
  have h2 := itF_congr (step := stW b) (step' := stX) (fun w => w.length = 64) 48 16 _ (fun j s hj _ hs => by
    rw [stW, if_neg (by omega)]
    exact ⟨rfl, stX_len hs⟩) h1.2
  have h3 := itF_add (stW b) 16 48 0 (List.replicate 64 0)
  rw [show 64 = 16 + 48 from rfl, h3]
  rw [show (0 : Nat) + 16 = 16 from rfl]
  rw [h2.1, h1.1] at *
  exact ⟨rfl, h2.2⟩
theorem t7 : (7 : Int) ∈ Turns := by decide
theorem t18 : (18 : Int) ∈ Turns := by decide
theorem t17 : (17 : Int) ∈ Turns := by decide
theorem t19 : (19 : Int) ∈ Turns := by decide
theorem t6 : (6 : Int) ∈ Turns := by decide
theorem t11 : (11 : Int) ∈ Turns := by decide
theorem t25 : (25 : Int) ∈ Turns := by decide
theorem t2 : (2 : Int) ∈ Turns := by decide
theorem t13 : (13 : Int) ∈ Turns := by decide
theorem t22 : (22 : Int) ∈ Turns := by decide
theorem gSh_l {x : Int} (h : 0 ≤ x) {R : Type} (r : Option R) : grd (gSh x) r = r := grd_of (gSh_t h) r
theorem wordsOf_eq (b : List Int) (hb : IsBytes b) (hl : b.length = 64) : i_wordsOf (strL b) = some (wsOf b) := by
  unfold i_wordsOf i_wordsOf.F
  have key := it_loop (L := fun n i w => i_wordsOf.l1 (fun l w => some w) n (strL b) i (List.replicate 64 (0 : Int)) w) (N := 64) (step := stW b) (fin := fun w => some w) (fun w => w.length = 64) ?_ ?_ 64 fuel 0 (List.replicate 64 0) (by omega) (by rw [fuel_eq]; omega) (by simp)
  · rw [wsOf_eq b |>.1] at key
    exact key.1
  · intro n i w hi hw
    have hsz : (strL b).size = 64 := by rw [strL_size, hl]
    simp only [i_wordsOf.l1]
    rw [decide_t (by omega), ct]
    by_cases h16 : i < 16
    · have e4 : IntKind.wrap .i64 (4 * (i : Int)) = ((4 * i : Nat) : Int) := by rw [wr (by omega) (by omega)]; omega
      have e5 : IntKind.wrap .i64 (((4 * i : Nat) : Int) + 1) = ((4 * i + 1 : Nat) : Int) := by rw [wr (by omega) (by omega)]; omega
      have e6 : IntKind.wrap .i64 (((4 * i : Nat) : Int) + 2) = ((4 * i + 2 : Nat) : Int) := by rw [wr (by omega) (by omega)]; omega
      have e7 : IntKind.wrap .i64 (((4 * i : Nat) : Int) + 3) = ((4 * i + 3 : Nat) : Int) := by rw [wr (by omega) (by omega)]; omega
      rw [decide_t (by omega), ct, e4, e5, e6, e7, hsz, grd_of (gIx_t (by omega) (by omega)), gSh_l (by decide), grd_of (gIx_t (by omega) (by omega)), gSh_l (by decide), grd_of (gIx_t (by omega) (by omega)), gSh_l (by decide), grd_of (gIx_t (by omega) (by omega)), grd_of (gIx_t (by omega) (by omega))]
      rw [byteAt_strL hb (by omega) (by omega), byteAt_strL hb (by omega) (by omega), byteAt_strL hb (by omega) (by omega), byteAt_strL hb (by omega) (by omega), wr (x := (i : Int) + 1) (by omega) (by omega), show ((i : Int) + 1) = ((i + 1 : Nat) : Int) by omega]
      simp only [Int.toNat_natCast]
      rw [stW, if_pos h16]
      exact ⟨rfl, stA_len hw⟩
    · rw [decide_f (by omega), cf, wr (x := (i : Int) - 15) (by omega) (by omega), wr (x := (i : Int) - 2) (by omega) (by omega), wr (x := (i : Int) - 16) (by omega) (by omega), wr (x := (i : Int) - 7) (by omega) (by omega)]
      rw [show ((i : Int) - 15).toNat = i - 15 by omega, show ((i : Int) - 2).toNat = i - 2 by omega, show ((i : Int) - 16).toNat = i - 16 by omega, show ((i : Int) - 7).toNat = i - 7 by omega]
      rw [grd_of (gIx_t (by omega) (by omega)), grd_of (gIx_t (by omega) (by omega)), rot_i _ _ t7, bs, rot_i _ _ t18, bs, gSh_l (by decide), rot_i _ _ t17, bs, rot_i _ _ t19, bs, gSh_l (by decide), grd_of (gIx_t (by omega) (by omega)), grd_of (gIx_t (by omega) (by omega)), grd_of (gIx_t (by omega) (by omega)), wr (x := (i : Int) + 1) (by omega) (by omega), show ((i : Int) + 1) = ((i + 1 : Nat) : Int) by omega, Int.toNat_natCast]
      rw [stW, if_neg h16]
      exact ⟨rfl, stX_len hw⟩
  · intro n w hw
    simp only [i_wordsOf.l1]
    rw [decide_f (by omega), cf]
end Go.Proofs.YtdpjbeeokimnaaaA

/-
  SHA-256: a block taken into a state: the program's and the reference's. No condition.
-/
namespace Go.Proofs.YtdpjbeeokimnaaaA
open Go
set_option linter.unusedVariables false
set_option linter.unusedSimpArgs false

def w32' (x : Int) : Int := IntKind.wrap .u32 x
def rP (v k w : List Int) (i : Nat) : Int :=
  IntKind.wrap .u32 ((IntKind.wrap .u32 ((IntKind.wrap .u32 ((IntKind.wrap .u32 ((rdE k32 v 7) + (iXor .u32 (iXor .u32 (rot (rdE k32 v 4) 6) (rot (rdE k32 v 4) 11)) (rot (rdE k32 v 4) 25)))) + (iOr .u32 (iAnd .u32 (rdE k32 v 4) (rdE k32 v 5)) (iAnd .u32 (iXor .u32 (IntKind.max .u32) (rdE k32 v 4)) (rdE k32 v 6))))) + (rdE k32 k i))) + (rdE k32 w i))
def rQ (v : List Int) : Int :=
  IntKind.wrap .u32 ((iXor .u32 (iXor .u32 (rot (rdE k32 v 0) 2) (rot (rdE k32 v 0) 13)) (rot (rdE k32 v 0) 22)) + (iOr .u32 (iOr .u32 (iAnd .u32 (rdE k32 v 0) (rdE k32 v 1)) (iAnd .u32 (rdE k32 v 0) (rdE k32 v 2))) (iAnd .u32 (rdE k32 v 1) (rdE k32 v 2))))
def stV (k w : List Int) (i : Nat) (v : List Int) : List Int :=
  [IntKind.wrap .u32 (rP v k w i + rQ v), rdE k32 v 0, rdE k32 v 1, rdE k32 v 2, IntKind.wrap .u32 (rdE k32 v 3 + rP v k w i), rdE k32 v 4, rdE k32 v 5, rdE k32 v 6]
def rounds (h k b : List Int) : List Int := itF (stV k (wsOf b)) 0 64 h
def addW (h v : List Int) : List Int :=
  [IntKind.wrap .u32 (rdE k32 h 0 + rdE k32 v 0), IntKind.wrap .u32 (rdE k32 h 1 + rdE k32 v 1), IntKind.wrap .u32 (rdE k32 h 2 + rdE k32 v 2), IntKind.wrap .u32 (rdE k32 h 3 + rdE k32 v 3), IntKind.wrap .u32 (rdE k32 h 4 + rdE k32 v 4), IntKind.wrap .u32 (rdE k32 h 5 + rdE k32 v 5), IntKind.wrap .u32 (rdE k32 h 6 + rdE k32 v 6), IntKind.wrap .u32 (rdE k32 h 7 + rdE k32 v 7)]
/-- What a block makes of a state. -/
def blockF (h k b : List Int) : List Int := addW h (rounds h k b)
theorem eight {l : List Int} (h : l.length = 8) : ∃ a b c d e f g i, l = [a, b, c, d, e, f, g, i] := by
  match l, h with
  | [a, b, c, d, e, f, g, i], _ => exact ⟨_, _, _, _, _, _, _, _, rfl⟩
theorem fuel9 : ∃ q, fuel = q + 9 := ⟨fuel - 9, by rw [fuel_eq]⟩
theorem rounds_len {h k b : List Int} (hh : h.length = 8) : (rounds h k b).length = 8 := (itF_congr (step := stV k (wsOf b)) (step' := stV k (wsOf b)) (fun v => v.length = 8) 64 0 h (fun _ _ _ _ _ => ⟨rfl, rfl⟩) hh).2
theorem blockHash_eq (h k b : List Int) (hb : IsBytes b) (hh : h.length = 8) (hk : k.length = 64) (hl : b.length = 64) : i_blockHash h k (strL b) = some (blockF h k b) := by
  rw [i_blockHash_eq]
  unfold i_blockHash.F
  rw [wordsOf_eq b hb hl, bs]
  have hw := (wsOf_eq b).2
  have key := it_loop (L := fun n i v => i_blockHash.l1 (fun words1 l v => i_blockHash.l2 (fun l1 v1 => some v1) fuel (0 : Int) words1 l v) n i h k (List.replicate 8 (0 : Int)) v (wsOf b)) (N := 64) (step := stV k (wsOf b)) (fin := fun v => i_blockHash.l2 (fun l1 v1 => some v1) fuel (0 : Int) h (List.replicate 8 (0 : Int)) v) (fun v => v.length = 8) ?_ ?_ 64 fuel 0 h (by omega) (by rw [fuel_eq]; omega) hh
  · obtain ⟨h1, h2⟩ := key
    refine h1.trans ?_
    show i_blockHash.l2 (fun l1 v1 => some v1) fuel (0 : Int) h (List.replicate 8 (0 : Int)) (rounds h k b) = some (addW h (rounds h k b))
    obtain ⟨a0, a1, a2, a3, a4, a5, a6, a7, hv⟩ := eight (rounds_len (k := k) (b := b) hh)
    obtain ⟨b0, b1, b2, b3, b4, b5, b6, b7, rfl⟩ := eight hh
    rw [hv]
    obtain ⟨q, hq⟩ := fuel9
    rw [hq]
    simp only [i_blockHash.l2]
    have c : ∀ a b : Int, IntKind.wrap .u32 (a + b) = IntKind.wrap .u32 (b + a) := fun a b => by rw [Int.add_comm]
    show some [IntKind.wrap .u32 (a0 + b0), IntKind.wrap .u32 (a1 + b1), IntKind.wrap .u32 (a2 + b2), IntKind.wrap .u32 (a3 + b3), IntKind.wrap .u32 (a4 + b4), IntKind.wrap .u32 (a5 + b5), IntKind.wrap .u32 (a6 + b6), IntKind.wrap .u32 (a7 + b7)] = some [IntKind.wrap .u32 (b0 + a0), IntKind.wrap .u32 (b1 + a1), IntKind.wrap .u32 (b2 + a2), IntKind.wrap .u32 (b3 + a3), IntKind.wrap .u32 (b4 + a4), IntKind.wrap .u32 (b5 + a5), IntKind.wrap .u32 (b6 + a6), IntKind.wrap .u32 (b7 + a7)]
    rw [c a0, c a1, c a2, c a3, c a4, c a5, c a6, c a7]
  · intro n i v hi hv
    simp only [i_blockHash.l1]
    rw [decide_t (by omega), ct]
    rw [grd_of (gIx_t (by omega) (by omega)), grd_of (gIx_t (by omega) (by omega)), grd_of (gIx_t (by omega) (by omega)), grd_of (gIx_t (by omega) (by omega)), grd_of (gIx_t (by omega) (by omega)), grd_of (gIx_t (by omega) (by omega)), grd_of (gIx_t (by omega) (by omega))]
    rw [rot_i _ _ t6, bs, rot_i _ _ t11, bs, rot_i _ _ t25, bs, grd_of (gIx_t (by omega) (by omega)), grd_of (gIx_t (by omega) (by omega)), rot_i _ _ t2, bs, rot_i _ _ t13, bs, rot_i _ _ t22, bs, grd_of (gIx_t (by omega) (by omega)), wr (x := (i : Int) + 1) (by omega) (by omega), show ((i : Int) + 1) = ((i + 1 : Nat) : Int) by omega, Int.toNat_natCast]
    exact ⟨rfl, rfl⟩
  · intro n v hv
    simp only [i_blockHash.l1]
    rw [decide_f (by omega), cf]
theorem block_s (h b k : List Int) (hb : IsBytes b) (hh : h.length = 8) (hk : k.length = 64) (hl : b.length = 64) : s_l01Block h b k = some (blockF h k b) := by
  rw [s_l01Block_eq]
  unfold s_l01Block.F
  rw [grd_of (gMk_t (by decide) (by decide) (by decide))]
  have l1 := fun (kke : List Int → List Int → List Int → Option (List Int)) => it_loop (L := fun n i w => s_l01Block.l1 kke n b k i h w) (N := 16) (step := stA b) (fin := fun w => kke k h w) (fun w => w.length = 64) (by
    intro n i w hi hw
    have hw' : List.length (α := El k32) w = 64 := hw
    have e4 : IntKind.wrap .i64 (4 * (i : Int)) = ((4 * i : Nat) : Int) := by rw [wr (by omega) (by omega)]; omega
    have e5 : IntKind.wrap .i64 (((4 * i : Nat) : Int) + 1) = ((4 * i + 1 : Nat) : Int) := by rw [wr (by omega) (by omega)]; omega
    have e6 : IntKind.wrap .i64 (((4 * i : Nat) : Int) + 2) = ((4 * i + 2 : Nat) : Int) := by rw [wr (by omega) (by omega)]; omega
    have e7 : IntKind.wrap .i64 (((4 * i : Nat) : Int) + 3) = ((4 * i + 3 : Nat) : Int) := by rw [wr (by omega) (by omega)]; omega
    simp only [s_l01Block.l1]
    rw [decide_t (by omega), ct, e4, e5, e6, e7, grd_of (gIx_t (by omega) (by omega)), gSh_l (by decide), grd_of (gIx_t (by omega) (by omega)), gSh_l (by decide), grd_of (gIx_t (by omega) (by omega)), gSh_l (by decide), grd_of (gIx_t (by omega) (by omega)), grd_of (gIx_t (by omega) (by omega)), wr (x := (i : Int) + 1) (by omega) (by omega), show ((i : Int) + 1) = ((i + 1 : Nat) : Int) by omega]
    simp only [Int.toNat_natCast]
    exact ⟨rfl, stA_len hw⟩) (by
    intro n w hw
    simp only [s_l01Block.l1]
    rw [decide_f (by omega), cf]) 16 fuel 0 (List.replicate 64 0) (by omega) (by rw [fuel_eq]; omega) (by simp)
  have l2 := fun (kke : List Int → List Int → List Int → Option (List Int)) (w0 : List Int) (h0 : w0.length = 64) => it_loop (L := fun n j w => s_l01Block.l2 kke n k (j + 16) h w) (N := 48) (step := fun j w => stX (j + 16) w) (fin := fun w => kke k h w) (fun w => w.length = 64) (by
    intro n j w hj hw
    have hw' : List.length (α := El k32) w = 64 := hw
    obtain ⟨i, hi⟩ : ∃ i, i = j + 16 := ⟨_, rfl⟩
    rw [show ((j : Int) + 16) = (i : Int) by omega, show (((j + 1 : Nat) : Int) + 16) = ((i + 1 : Nat) : Int) by omega, ← hi]
    simp only [s_l01Block.l2]
    rw [decide_t (by omega), ct, wr (x := (i : Int) - 15) (by omega) (by omega), wr (x := (i : Int) - 2) (by omega) (by omega), wr (x := (i : Int) - 16) (by omega) (by omega), wr (x := (i : Int) - 7) (by omega) (by omega)]
    rw [show ((i : Int) - 15).toNat = i - 15 by omega, show ((i : Int) - 2).toNat = i - 2 by omega, show ((i : Int) - 16).toNat = i - 16 by omega, show ((i : Int) - 7).toNat = i - 7 by omega]
    rw [grd_of (gIx_t (by omega) (by omega)), grd_of (gIx_t (by omega) (by omega)), grd_of (gIx_t (by omega) (by omega)), rot_s _ _ t7, bs, rot_s _ _ t18, bs, gSh_l (by decide), grd_of (gIx_t (by omega) (by omega)), rot_s _ _ t17, bs, rot_s _ _ t19, bs, gSh_l (by decide), grd_of (gIx_t (by omega) (by omega)), wr (x := (i : Int) + 1) (by omega) (by omega), show ((i : Int) + 1) = ((i + 1 : Nat) : Int) by omega, Int.toNat_natCast]
    exact ⟨rfl, stX_len hw⟩) (by
    intro n w hw
    simp only [s_l01Block.l2]
    rw [decide_f (by omega), cf]) 48 fuel 0 w0 (by omega) (by rw [fuel_eq]; omega) h0
  have l3 := fun (kke : List Int → List Int → Option (List Int)) (w : List Int) (hw : w.length = 64) => it_loop (L := fun n i v => s_l01Block.l3 kke n k i h w v) (N := 64) (step := stV k w) (fin := fun v => kke h v) (fun v => v.length = 8) (by
    intro n i v hi hv
    have hw' : List.length (α := El k32) w = 64 := hw
    have hv' : List.length (α := El k32) v = 8 := hv
    have hk' : List.length (α := El k32) k = 64 := hk
    simp only [s_l01Block.l3]
    rw [decide_t (by omega), ct]
    rw [grd_of (gIx_t (by omega) (by omega)), grd_of (gIx_t (by omega) (by omega)), grd_of (gIx_t (by omega) (by omega)), rot_s _ _ t6, bs, rot_s _ _ t11, bs, rot_s _ _ t25, bs]
    rw [grd_of (gIx_t (by omega) (by omega)), grd_of (gIx_t (by omega) (by omega)), grd_of (gIx_t (by omega) (by omega)), grd_of (gIx_t (by omega) (by omega)), rot_s _ _ t2, bs, rot_s _ _ t13, bs, rot_s _ _ t22, bs]
    repeat rw [grd_of (gIx_t (by omega) (by omega))]
    rw [wr (x := (i : Int) + 1) (by omega) (by omega), show ((i : Int) + 1) = ((i + 1 : Nat) : Int) by omega, Int.toNat_natCast]
    simp only [ch32, maj32]
    exact ⟨rfl, rfl⟩) (by
    intro n v hv
    simp only [s_l01Block.l3]
    rw [decide_f (by omega), cf]) 64 fuel 0 h (by omega) (by rw [fuel_eq]; omega) hh
  have sh := fun (m i : Nat) (w : List Int) => show itF (fun j w => stX (j + 16) w) i m w = itF stX (i + 16) m w by
    induction m generalizing i w with
    | zero => rfl
    | succ m ih =>
      show itF (fun j w => stX (j + 16) w) (i + 1) m (stX (i + 16) w) = itF stX (i + 16 + 1) m (stX (i + 16) w)
      rw [ih, show i + 1 + 16 = i + 16 + 1 by omega]
  have hlen := (wsOf_eq b).2
  refine (l1 _).1.trans ?_
  have e2 := (l2 (fun k_2 h2 w1 => grd (gRm (((List.length ([] : List Int)) + (List.length h2)) * 4)) <| s_l01Block.l3 (fun h3 v => s_l01Block.l4 (fun h4 => some h4) fuel (0 : Int) h3 v) fuel k_2 (0 : Int) h2 w1 (([] : List Int) ++ h2)) _ (l1 (fun _ _ w => some w)).2).1
  rw [sh] at e2
  refine e2.trans ?_
  show grd (gRm (((List.length ([] : List Int)) + (List.length h)) * 4)) (s_l01Block.l3 (fun h3 v => s_l01Block.l4 (fun h4 => some h4) fuel (0 : Int) h3 v) fuel k (0 : Int) h (wsOf b) (([] : List Int) ++ h)) = _
  rw [grd_of (gRm_t (by simp; omega)), List.nil_append]
  refine (l3 _ (wsOf b) hlen).1.trans ?_
  show s_l01Block.l4 (fun h4 => some h4) fuel (0 : Int) h (rounds h k b) = some (addW h (rounds h k b))
  obtain ⟨a0, a1, a2, a3, a4, a5, a6, a7, hv⟩ := eight (rounds_len (k := k) (b := b) hh)
  obtain ⟨b0, b1, b2, b3, b4, b5, b6, b7, rfl⟩ := eight hh
  rw [hv]
  obtain ⟨q, hq⟩ := fuel9
  rw [hq]
  rfl
theorem blockF_len (h k b : List Int) : (blockF h k b).length = 8 := rfl
/-- Each word below 2^32. -/
def IsWords (l : List Int) : Prop := ∀ x ∈ l, 0 ≤ x ∧ x < 4294967296
theorem blockF_words (h k b : List Int) : IsWords (blockF h k b) := by
  intro x hx
  have : ∃ y, x = IntKind.wrap .u32 y := by
    unfold blockF addW at hx
    simp only [List.mem_cons, List.mem_nil_iff, or_false] at hx
    rcases hx with rfl | rfl | rfl | rfl | rfl | rfl | rfl | rfl <;> exact ⟨_, rfl⟩
  obtain ⟨y, rfl⟩ := this
  rw [wr32m]
  omega
end Go.Proofs.YtdpjbeeokimnaaaA

/-
  Readers of bytes: what the program's and the reference's take. No condition.
-/
namespace Go.Proofs.YtdpjbeeokimnaaaA
open Go
set_option linter.unusedVariables false
set_option linter.unusedSimpArgs false

theorem take_ok (l : List Int) (m : Int) (h0 : 0 ≤ m) (h1 : m ≤ l.length) : i_reader_take (strL l) false m = some (strL (l.take m.toNat), strL (l.drop m.toNat), false) := by
  unfold i_reader_take i_reader_take.F
  rw [cond_false, decide_f (by rw [strL_size]; omega), cond_false, strL_size, grd_of (gSl_t (by omega) (by omega) (by omega)), grd_of (gSl_t (by omega) (by omega) (by omega)), cut_strL, cut_strL, sub_take, sub_drop l m rfl]
theorem take_no (l : List Int) (m : Int) (h1 : (l.length : Int) < m) : i_reader_take (strL l) false m = some (ByteArray.empty, strL l, true) := by
  unfold i_reader_take i_reader_take.F
  rw [cond_false, decide_t (by rw [strL_size]; omega), cond_true]
theorem take_bad (s : ByteArray) (m : Int) : i_reader_take s true m = some (ByteArray.empty, s, true) := rfl
theorem numberOf_nil : i_numberOf ByteArray.empty = some 0 := by
  have := numberOf_eq [] IsBytes.nil (by simp)
  exact this
theorem rnum_ok (l : List Int) (hb : IsBytes l) (m : Nat) (hm : m ≤ 7) (h1 : m ≤ l.length) : i_reader_number (strL l) false m = some (beN 0 (l.take m), strL (l.drop m), false) := by
  unfold i_reader_number i_reader_number.F
  rw [take_ok l m (by omega) (by omega), Option.bind_some, Int.toNat_natCast, numberOf_eq _ (hb.take m) (by simp; omega)]
  rfl
theorem rnum_no (l : List Int) (m : Int) (h1 : (l.length : Int) < m) : i_reader_number (strL l) false m = some (0, strL l, true) := by
  unfold i_reader_number i_reader_number.F
  rw [take_no l m h1, Option.bind_some, numberOf_nil]
  rfl
theorem rnum_bad (s : ByteArray) (m : Int) : i_reader_number s true m = some (0, s, true) := by
  unfold i_reader_number i_reader_number.F
  rw [take_bad, Option.bind_some, numberOf_nil]
  rfl
theorem rcnt_bad (s : ByteArray) : i_reader_counted s true = some (ByteArray.empty, s, true) := by
  unfold i_reader_counted i_reader_counted.F
  rw [rnum_bad, Option.bind_some, take_bad]
  rfl
/-- A text behind its length. -/
theorem rcnt_ok (a : Int) (l : List Int) (hb : IsBytes (a :: l)) (h : a ≤ l.length) : i_reader_counted (strL (a :: l)) false = some (strL (l.take a.toNat), strL (l.drop a.toNat), false) := by
  have ha := hb a List.mem_cons_self
  unfold i_reader_counted i_reader_counted.F
  have := rnum_ok (a :: l) hb 1 (by omega) (by simp)
  rw [show ((1 : Nat) : Int) = 1 by rfl] at this
  rw [this, Option.bind_some]
  have e : beN 0 (List.take 1 (a :: l)) = a := by simp [beN]
  simp only [e, List.drop_succ_cons, List.drop_zero]
  rw [take_ok l a (by omega) (by omega)]
  rfl
theorem rcnt_nil : i_reader_counted (strL []) false = some (ByteArray.empty, strL [], true) := by
  unfold i_reader_counted i_reader_counted.F
  rw [rnum_no [] 1 (by simp), Option.bind_some, take_bad]
  rfl
theorem rcnt_no (a : Int) (l : List Int) (hb : IsBytes (a :: l)) (h : (l.length : Int) < a) : i_reader_counted (strL (a :: l)) false = some (ByteArray.empty, strL l, true) := by
  have ha := hb a List.mem_cons_self
  unfold i_reader_counted i_reader_counted.F
  have := rnum_ok (a :: l) hb 1 (by omega) (by simp)
  rw [show ((1 : Nat) : Int) = 1 by rfl] at this
  rw [this, Option.bind_some]
  have e : beN 0 (List.take 1 (a :: l)) = a := by simp [beN]
  simp only [e, List.drop_succ_cons, List.drop_zero]
  rw [take_no l a h]
  rfl

/-! ### The reference's reader -/
theorem snum_l1 {R : Type} (ke kr : Int → List Int → Int → Bool → Option R) (l : List Int) (hb : IsBytes l) (hl : l.length ≤ 1000000) (m : Nat) (hm : m ≤ 7) : ∀ (j n i p : Nat) (a : Int), i + j = m → j < n → p ≤ l.length → 0 ≤ a → a < 256 ^ i →
    s_l02Reader_number.l1 ke kr n m a i l p false = if p + j ≤ l.length then ke (beN a ((l.drop p).take j)) l ((p + j : Nat) : Int) false else kr 0 l l.length true
  | 0, n + 1, i, p, a, e, _, hp, h0, h1 => by
    simp only [s_l02Reader_number.l1, decide_f (show ¬ (i : Int) < m by omega), cond_false, Nat.add_zero, if_pos hp, List.take_zero, beN]
  | j + 1, n + 1, i, p, a, e, hn, hp, h0, h1 => by
    simp only [s_l02Reader_number.l1, decide_t (show (i : Int) < m by omega), cond_true, cond_false]
    by_cases hlt : p < l.length
    · have hg := hb.get hlt
      have h6 : a < 256 ^ 6 := Int.lt_of_lt_of_le h1 (pow256_le (by omega))
      have e256 : (256 : Int) ^ 6 = 281474976710656 := by decide
      rw [decide_f (by omega : ¬ (p : Int) ≥ l.length), cond_false, grd_of (gIx_t (by omega) (by omega)), Int.toNat_natCast, rdE_at hlt]
      have e1 : IntKind.wrap .i64 (a * 256) = a * 256 := wr (by omega) (by omega)
      rw [e1, wr (x := l[p]) (by omega) (by omega), wr (x := a * 256 + l[p]) (by omega) (by omega), wr (x := (i : Int) + 1) (by omega) (by omega), wr (x := (p : Int) + 1) (by omega) (by omega)]
      have := snum_l1 ke kr l hb hl m hm j n (i + 1) (p + 1) (a * 256 + l[p]) (by omega) (by omega) (by omega) (by omega) (by rw [Int.pow_succ]; omega)
      rw [show ((i : Int) + 1) = ((i + 1 : Nat) : Int) by omega, show ((p : Int) + 1) = ((p + 1 : Nat) : Int) by omega, this]
      rw [show p + 1 + j = p + (j + 1) by omega, drop_cons hlt]
      rfl
    · rw [decide_t (by omega : (p : Int) ≥ l.length), cond_true, if_neg (by omega)]
      congr 1
      omega
theorem snum_eq (l : List Int) (hb : IsBytes l) (hl : l.length ≤ 1000000) (m : Nat) (hm : m ≤ 7) (p : Nat) (hp : p ≤ l.length) :
    s_l02Reader_number l p false m = if p + m ≤ l.length then some (beN 0 ((l.drop p).take m), l, ((p + m : Nat) : Int), false) else some (0, l, (l.length : Int), true) := by
  unfold s_l02Reader_number s_l02Reader_number.F
  exact snum_l1 _ _ l hb hl m hm m fuel 0 p 0 (by omega) (by rw [fuel_eq]; omega) hp (by omega) (by simp)
theorem snum_bad (l : List Int) (p : Int) (m : Int) (h : 0 < m) : s_l02Reader_number l p true m = some (0, l, p, true) := by
  unfold s_l02Reader_number s_l02Reader_number.F
  obtain ⟨q, hq⟩ := fuel_gt (n := 0) (by omega)
  rw [hq]
  simp only [s_l02Reader_number.l1, decide_t h, cond_true]
theorem stext_bad (l : List Int) (p m : Int) : s_l02Reader_text l p true m = some (ByteArray.empty, l, p, true) := rfl
theorem stext_eq (l : List Int) (hl : l.length ≤ 1000000) (p : Nat) (hp : p ≤ l.length) (m : Int) (h0 : 0 ≤ m) (h1 : m ≤ 1000000) :
    s_l02Reader_text l p false m = if p + m.toNat ≤ l.length then some (strL ((l.drop p).take m.toNat), l, ((p + m.toNat : Nat) : Int), false) else some (ByteArray.empty, l, (p : Int), true) := by
  unfold s_l02Reader_text s_l02Reader_text.F
  rw [cond_false, decide_f (by omega : ¬ m < 0), cond_false, wr (by omega) (by omega)]
  by_cases h : p + m.toNat ≤ l.length
  · rw [decide_f (by omega), cond_false, wr (by omega) (by omega), grd_of (gSl_t (by omega) (by omega) (by omega)), if_pos h]
    have e1 : ((p : Int) + m - m) = p := by omega
    have e2 : ((p : Int) + m) = ((p + m.toNat : Nat) : Int) := by omega
    rw [e1, e2]
    congr 3
    unfold sub
    rw [Int.toNat_natCast, Int.toNat_natCast, List.drop_take]
    congr 1
    omega
  · rw [decide_t (by omega), cond_true, if_neg h]
end Go.Proofs.YtdpjbeeokimnaaaA

/-
  Searches along a row, for any of the printed loops that go so. No condition.
-/
namespace Go.Proofs.YtdpjbeeokimnaaaA
open Go
set_option linter.unusedVariables false
set_option linter.unusedSimpArgs false

/-- The first of which q holds, from j on. -/
theorem find_loop {k : Kd} {R : Type} {L : Nat → List (El k) → Int → Int → Option R} {f : El k → Option (Bool × Unit)} {kke : Option R} {kkr : Int → Option R}
    (hL : ∀ n s i j, L (n + 1) s i j = cond (decide (j < i)) (grd (gIx j (List.length s)) ((f (rdE k s (Int.toNat j))).bind fun r => cond r.1 (kkr j) (L n s i (IntKind.wrap .i64 (j + 1))))) kke)
    {q : El k → Bool} {l : List (El k)} (hl : l.length ≤ 9223372036854775806) (hf : ∀ x ∈ l, f x = some (q x, ())) :
    ∀ (m n j : Nat), j + m = l.length → m < n → L n l l.length j = match (l.drop j).findIdx? q with | none => kke | some d => kkr ((j + d : Nat) : Int)
  | 0, n + 1, j, e, _ => by
    rw [hL, decide_f (by omega : ¬ (j : Int) < l.length), cond_false, List.drop_of_length_le (by omega)]
    rfl
  | m + 1, n + 1, j, e, h => by
    have hj : j < l.length := by omega
    rw [hL, decide_t (by omega : (j : Int) < l.length), cond_true, grd_of (gIx_t (by omega) (by omega)), Int.toNat_natCast, rdE_at hj, hf _ (List.getElem_mem hj), Option.bind_some, drop_cons hj, List.findIdx?_cons]
    cases hq : q l[j] with
    | true => simp
    | false =>
      simp only [cond_false, Bool.false_eq_true, if_false]
      rw [wr (by omega) (by omega), show ((j : Int) + 1) = ((j + 1 : Nat) : Int) by omega, find_loop hL hl hf m n (j + 1) (by omega) (by omega)]
      cases (l.drop (j + 1)).findIdx? q with
      | none => rfl
      | some d => simp only [Option.map_some]; congr 1; omega
theorem findIdx_any {α : Type} (l : List α) (q : α → Bool) : (l.findIdx? q).isSome = l.any q := by
  induction l with
  | nil => rfl
  | cons x l ih =>
    rw [List.findIdx?_cons, List.any_cons]
    cases q x with
    | true => simp
    | false => simp [ih]
/-- A loop that runs through a row. -/
theorem each_loop {k : Kd} {R S : Type} {L : Nat → S → Int → Option R} {l : List (El k)} (hl : l.length ≤ 9223372036854775806) {step : S → Nat → S} {fin : S → Option R} (Inv : Nat → S → Prop)
    (hL : ∀ n s j, j < l.length → Inv j s → L (n + 1) s (j : Int) = L n (step s j) ((j + 1 : Nat) : Int)) (hI : ∀ s j, j < l.length → Inv j s → Inv (j + 1) (step s j))
    (h0 : ∀ n s, Inv l.length s → L (n + 1) s (l.length : Int) = fin s) : ∀ (m n j : Nat) (s : S), j + m = l.length → m < n → Inv j s → ∃ s', L n s j = fin s' ∧ Inv l.length s'
  | 0, n + 1, j, s, e, _, hi => by
    have : j = l.length := by omega
    subst this
    exact ⟨s, h0 n s hi, hi⟩
  | m + 1, n + 1, j, s, e, h, hi => by
    have hj : j < l.length := by omega
    rw [hL n s j hj hi]
    exact each_loop hl Inv hL hI h0 m n (j + 1) _ (by omega) (by omega) (hI s j hj hi)
end Go.Proofs.YtdpjbeeokimnaaaA

/-
  Members of a group, read from bytes: the program's and the reference's test agree. No condition.
-/
namespace Go.Proofs.YtdpjbeeokimnaaaA
open Go
set_option linter.unusedVariables false
set_option linter.unusedSimpArgs false

def inSeven (n : Int) : Bool := decide (0 ≤ n) && decide (n ≤ 6)
def rising : List Int → Bool
  | [] => true
  | x :: xs => (match xs with | [] => true | y :: _ => decide (x < y)) && rising xs
def memOK (l : List Int) : Bool := decide (0 < l.length) && l.all inSeven && rising l
theorem not_any_not {α : Type} (q : α → Bool) (l : List α) : (!(l.any fun x => !q x)) = l.all q := by
  induction l with
  | nil => rfl
  | cons x l ih => rw [List.any_cons, List.all_cons, ← ih]; cases q x <;> simp
theorem areNumbers_eq (l : List Int) (hl : l.length ≤ 9223372036854775806) : i_areNumbers l = some (l.all inSeven) := by
  have h1 : i_areNumbers l = some (!(l.any fun x => !inSeven x)) := by
    unfold i_areNumbers i_areNumbers.F slices_ContainsFunc_SLint_int slices_ContainsFunc_SLint_int.F slices_IndexFunc_SLint_int slices_IndexFunc_SLint_int.F
    have hq : ∀ x ∈ l, (fun x : Int => (fun t : Int × Unit => (i_areNumbers_1 t.1).bind fun a => some (a, ())) (x, ())) x = some (!inSeven x, ()) := by
      intro x _
      simp only [i_areNumbers_1, i_areNumbers_1.F, within_eq, Option.bind_some, inSeven]
    have := find_loop (k := .int .i64) (L := slices_IndexFunc_SLint_int.l1 (fun t => (i_areNumbers_1 t.1).bind fun a => some (a, ())) (some (-1 : Int)) (fun i => some i)) (fun n s i j => rfl) hl hq l.length fuel 0 (by omega) (by rw [fuel_eq]; omega)
    rw [Int.natCast_zero] at this
    rw [this, List.drop_zero, ← findIdx_any]
    cases l.findIdx? fun x => !inSeven x with
    | none => rfl
    | some d => simp
  rw [h1, not_any_not]
theorem rising_l1 (l : List Int) (hl : l.length ≤ 9223372036854775806) : ∀ (m n j : Nat), j + 1 + m = l.length → m < n → i_areRising.l1 (some true) (fun b => some b) n l ((j + 1 : Nat) : Int) = some (rising (l.drop j))
  | 0, n + 1, j, e, _ => by
    have hj : j < l.length := by omega
    simp only [i_areRising.l1, decide_f (show ¬ ((j + 1 : Nat) : Int) < l.length by omega), cond_false]
    rw [drop_cons hj, List.drop_of_length_le (by omega)]
    rfl
  | m + 1, n + 1, j, e, h => by
    have hj : j < l.length := by omega
    have hj1 : j + 1 < l.length := by omega
    simp only [i_areRising.l1, decide_t (show ((j + 1 : Nat) : Int) < l.length by omega), cond_true]
    rw [wr (x := ((j + 1 : Nat) : Int) - 1) (by omega) (by omega), wr (x := ((j + 1 : Nat) : Int) + 1) (by omega) (by omega)]
    rw [grd_of (gIx_t (by omega) (by omega)), grd_of (gIx_t (by omega) (by omega)), show (((j + 1 : Nat) : Int) - 1).toNat = j by omega, Int.toNat_natCast, rdE_at (k := .int .i64) hj, rdE_at (k := .int .i64) hj1]
    rw [show (((j + 1 : Nat) : Int) + 1) = ((j + 1 + 1 : Nat) : Int) by omega, rising_l1 l hl m n (j + 1) (by omega) (by omega)]
    rw [drop_cons hj, drop_cons hj1]
    simp only [rising]
    by_cases hlt : l[j] < l[j + 1]
    · rw [decide_f (by omega : ¬ l[j] ≥ l[j + 1]), cond_false, decide_t hlt, Bool.true_and]
    · rw [decide_t (by omega : l[j] ≥ l[j + 1]), cond_true, decide_f hlt, Bool.false_and]
theorem areRising_eq (l : List Int) (hl : l.length ≤ 9223372036854775806) : i_areRising l = some (rising l) := by
  unfold i_areRising i_areRising.F
  rcases Nat.eq_zero_or_pos l.length with h | h
  · rw [List.length_eq_zero_iff.1 h]
    obtain ⟨q, hq⟩ := fuel_gt (n := 0) (by omega)
    rw [hq]
    rfl
  · have := rising_l1 l hl (l.length - 1) fuel 0 (by omega) (by rw [fuel_eq]; omega)
    rw [List.drop_zero] at this
    exact this
theorem membersOK_eq (l : List Int) (hl : l.length ≤ 9223372036854775806) : i_membersOK l = some (memOK l) := by
  unfold i_membersOK i_membersOK.F memOK
  rw [areNumbers_eq l hl, areRising_eq l hl]
  by_cases h : 0 < l.length
  · rw [decide_t (by omega : (l.length : Int) > 0), cond_true, Option.bind_some, decide_t h, Bool.true_and]
    cases l.all inSeven <;> rfl
  · rw [decide_f (by omega : ¬ (l.length : Int) > 0), cond_false, decide_f h, Bool.false_and, Bool.false_and]
theorem readMembers_l1 (l : List Int) (hb : IsBytes l) (hl : l.length ≤ 1000000000000) {R : Type} (kk : List Int → Option R) : ∀ (m n j : Nat), j + m = l.length → m < n → i_readMembers.l1 kk n (strL l) l.length j (l.take j) = kk l
  | 0, n + 1, j, e, _ => by
    simp only [i_readMembers.l1, decide_f (show ¬ (j : Int) < l.length by omega), cond_false]
    rw [List.take_of_length_le (by omega)]
  | m + 1, n + 1, j, e, h => by
    have hj : j < l.length := by omega
    have hg := hb.get hj
    simp only [i_readMembers.l1, decide_t (show (j : Int) < l.length by omega), cond_true]
    have e0 : l.getD (Int.toNat (j : Int)) 0 = l[j] := by
      rw [Int.toNat_natCast, List.getD_eq_getElem?_getD, List.getElem?_eq_getElem hj]; rfl
    rw [grd_of (gIx_t (by omega) (by rw [strL_size]; omega)), grd_of (gRm_t (by simp; omega)), byteAt_strL hb (by omega) (by omega), e0, wr (x := l[j]) (by omega) (by omega), wr (by omega) (by omega), ← take_snoc hj, show ((j : Int) + 1) = ((j + 1 : Nat) : Int) by omega]
    exact readMembers_l1 l hb hl kk m n (j + 1) (by omega) (by omega)
theorem readMembers_eq (l : List Int) (hb : IsBytes l) (hl : l.length ≤ 1000000000000) : i_readMembers (strL l) = some (l, memOK l) := by
  unfold i_readMembers i_readMembers.F
  rw [strL_size]
  have := readMembers_l1 l hb hl (fun out => (i_membersOK out).bind fun r => some (out, r)) l.length fuel 0 (by omega) (by rw [fuel_eq]; omega)
  rw [List.take_zero, Int.natCast_zero] at this
  rw [this, membersOK_eq l (by omega)]
  rfl
/-- The reference's test of a row, from place j on. -/
def memS (l : List Int) : Bool := l.all inSeven && rising l
theorem memS_step (l : List Int) (j : Nat) (h1 : j + 1 < l.length) : memS (l.drop j) = (inSeven (l[j]'(by omega)) && decide (l[j]'(by omega) < l[j + 1]) && memS (l.drop (j + 1))) := by
  rw [drop_cons (show j < l.length by omega), drop_cons h1]
  simp only [memS, List.all_cons, rising]
  cases inSeven l[j] <;> cases inSeven l[j + 1] <;> cases decide (l[j] < l[j + 1]) <;> simp
theorem l02Members_l1 (l : List Int) (hb : IsBytes l) (hl : l.length ≤ 1000000000000) {R : Type} (ke : List Int → Option R) (kr : Bool → List Int → Option R) : ∀ (m n j : Nat), j + m = l.length → m < n → (j = 0 ∨ (0 < j ∧ ∃ h : j - 1 < l.length, inSeven l[j - 1] = true)) →
    s_l02Members.l1 ke kr n (strL l) j (l.take j) = if memS (l.drop (j - 1)) = true then ke l else kr false []
  | 0, n + 1, j, e, _, h0 => by
    simp only [s_l02Members.l1]
    rw [decide_f (show ¬ (j : Int) < (strL l).size by rw [strL_size]; omega), cond_false, List.take_of_length_le (by omega)]
    rw [if_pos]
    rcases h0 with rfl | ⟨hp, h, h1⟩
    · rw [show l = [] from List.length_eq_zero_iff.1 (by omega)]; rfl
    · rw [drop_cons h, show j - 1 + 1 = j by omega, List.drop_of_length_le (by omega)]
      simp [memS, rising, h1]
  | m + 1, n + 1, j, e, hn, h0 => by
    have hj : j < l.length := by omega
    have hg := hb.get hj
    have e0 : byteAt (strL l) (j : Int) = l[j] := by
      rw [byteAt_strL hb (by omega) (by omega), Int.toNat_natCast, List.getD_eq_getElem?_getD, List.getElem?_eq_getElem hj]; rfl
    simp only [s_l02Members.l1]
    rw [decide_t (show (j : Int) < (strL l).size by rw [strL_size]; omega), cond_true, e0, wr (x := l[j]) (by omega) (by omega), l01In_eq, Option.bind_some]
    rw [grd_of (gIx_t (by omega) (by rw [strL_size]; omega)), show (decide ((0 : Int) ≤ l[j]) && decide (l[j] ≤ 6)) = inSeven l[j] from rfl]
    have hrec : s_l02Members.l1 ke kr n (strL l) ((j + 1 : Nat) : Int) (l.take (j + 1)) = if inSeven l[j] = true then (if memS (l.drop j) = true then ke l else kr false []) else s_l02Members.l1 ke kr n (strL l) ((j + 1 : Nat) : Int) (l.take (j + 1)) := by
      by_cases hs : inSeven l[j] = true
      · rw [if_pos hs, l02Members_l1 l hb hl ke kr m n (j + 1) (by omega) (by omega) (.inr ⟨by omega, by omega, by simpa using hs⟩)]
        rfl
      · rw [if_neg hs]
    rw [wr (x := (j : Int) + 1) (by omega) (by omega), wr (x := (j : Int) - 1) (by omega) (by omega), grd_of (gRm_t (by simp; omega)), ← take_snoc hj, show ((j : Int) + 1) = ((j + 1 : Nat) : Int) by omega]
    cases hs : inSeven l[j] with
    | false =>
      simp only [Bool.not_false, cond_true]
      rw [if_neg]
      have : memS (l.drop j) = false := by
        rw [drop_cons hj]; simp only [memS, List.all_cons, hs, Bool.false_and]
      rcases h0 with rfl | ⟨hp, h, h1⟩
      · rw [this]; simp
      · rw [memS_step l (j - 1) (by omega)]; simp only [show j - 1 + 1 = j by omega, this]; simp
    | true =>
      rw [hrec, if_pos hs]
      simp only [Bool.not_true, cond_false]
      rcases h0 with rfl | ⟨hp, h, h1⟩
      · rw [decide_f (by omega : ¬ ((0 : Nat) : Int) > 0), cond_false, grd_of (gIx_t (by omega) (by rw [strL_size]; omega))]
      · have ep : byteAt (strL l) ((j : Int) - 1) = l[j - 1] := by
          rw [byteAt_strL hb (by omega) (by omega), show ((j : Int) - 1).toNat = j - 1 by omega, List.getD_eq_getElem?_getD, List.getElem?_eq_getElem h]; rfl
        rw [decide_t (by omega : (j : Int) > 0), cond_true, grd_of (gIx_t (by omega) (by rw [strL_size]; omega)), grd_of (gIx_t (by omega) (by rw [strL_size]; omega)), ep]
        have := memS_step l (j - 1) (by omega)
        simp only [show j - 1 + 1 = j by omega, h1, Bool.true_and] at this
        rw [this]
        by_cases hlt : l[j - 1] < l[j]
        · rw [decide_f (by omega : ¬ l[j - 1] ≥ l[j]), cond_false, decide_t hlt, Bool.true_and, grd_of (gIx_t (by omega) (by rw [strL_size]; omega))]
        · rw [decide_t (by omega : l[j - 1] ≥ l[j]), cond_true, decide_f hlt, Bool.false_and, if_neg (by simp)]
theorem l02Members_eq (l : List Int) (hb : IsBytes l) (hl : l.length ≤ 1000000000000) : s_l02Members (strL l) = some (if memS l = true then (l, decide (0 < l.length)) else ([], false)) := by
  unfold s_l02Members s_l02Members.F
  have := l02Members_l1 l hb hl (fun out => some (out, decide ((List.length out : Int) > (0 : Int)))) (fun b l => some (l, b)) l.length fuel 0 (by omega) (by rw [fuel_eq]; omega) (.inl rfl)
  rw [List.take_zero, Int.natCast_zero] at this
  rw [this]
  simp only [Nat.zero_sub, List.drop_zero]
  split
  · congr 2
    rw [Bool.eq_iff_iff, decide_eq_true_iff, decide_eq_true_iff]
    omega
  · rfl
theorem memOK_S (l : List Int) : memOK l = (decide (0 < l.length) && memS l) := by
  unfold memOK memS
  rw [Bool.and_assoc]
theorem members_agree (l : List Int) (hb : IsBytes l) (hl : l.length ≤ 1000000000000) : ∃ m, s_l02Members (strL l) = some (m, memOK l) := by
  rw [l02Members_eq l hb hl, memOK_S]
  cases memS l with
  | true => exact ⟨l, by simp⟩
  | false => exact ⟨[], by simp⟩
end Go.Proofs.YtdpjbeeokimnaaaA

/-
  Commands and entries in bytes: the program's and the reference's. No condition.
-/
namespace Go.Proofs.YtdpjbeeokimnaaaA
open Go
set_option linter.unusedVariables false
set_option linter.unusedSimpArgs false

theorem exStr (s : ByteArray) : ∃ l, IsBytes l ∧ s = strL l := ⟨bytesL s, IsBytes.bytesL s, (strL_bytesL s).symm⟩
def inShort (n : Int) : Bool := decide (0 ≤ n) && decide (n ≤ 65535)
def isKeyB (s : ByteArray) : Bool := decide (1 ≤ s.size) && decide (s.size ≤ 24)
def cmdOK (k s q : Int) (key val : ByteArray) : Bool :=
  inShort s && (inShort q && (decide (val.size ≤ 60) && (if k = 1 ∨ k = 2 then isKeyB key else if k = 3 then isKeyB key && sEq val ByteArray.empty else if k = 4 ∨ k = 5 then sEq key ByteArray.empty && (sEq val ByteArray.empty && (q == 0)) else false)))
theorem isShort_eq (n : Int) : i_isShort n = some (inShort n) := by
  unfold i_isShort i_isShort.F
  rw [within_eq]
  rfl
theorem isKey_eq (s : ByteArray) : i_isKey s = some (isKeyB s) := by
  unfold i_isKey i_isKey.F isKeyB
  rw [within_eq, Option.bind_some]
  congr 2 <;> (rw [Bool.eq_iff_iff, decide_eq_true_iff, decide_eq_true_iff]; omega)
theorem l02Key_eq (s : ByteArray) : s_l02Key s = some (isKeyB s) := by
  unfold s_l02Key s_l02Key.F isKeyB
  by_cases h : 1 ≤ s.size
  · rw [decide_t (by omega : (s.size : Int) ≥ 1), cond_true, decide_t h, Bool.true_and]
    congr 1
    rw [Bool.eq_iff_iff, decide_eq_true_iff, decide_eq_true_iff]; omega
  · rw [decide_f (by omega : ¬ (s.size : Int) ≥ 1), cond_false, decide_f h, Bool.false_and]
theorem isValue_eq (s : ByteArray) : i_isValue s = some (decide (s.size ≤ 60)) := by
  unfold i_isValue i_isValue.F
  congr 1
  rw [Bool.eq_iff_iff, decide_eq_true_iff, decide_eq_true_iff]; omega
theorem commandOK_i (k s q : Int) (key val : ByteArray) : i_CommandOK k s q key val = some (cmdOK k s q key val) := by
  unfold i_CommandOK i_CommandOK.F cmdOK
  simp only [isShort_eq, isValue_eq, isKey_eq, Option.bind_some, i_CommandOK.j1, i_CommandOK.j2]
  cases inShort s <;> cases inShort q <;> cases decide (val.size ≤ 60) <;> simp only [Bool.not_true, Bool.not_false, cond_true, cond_false, Bool.false_and, Bool.true_and]
  by_cases h1 : k = 1
  · simp [h1]
  by_cases h2 : k = 2
  · simp [h2]
  by_cases h3 : k = 3
  · simp [h3]
    cases isKeyB key <;> rfl
  by_cases h4 : k = 4
  · simp [h4]
    cases sEq key ByteArray.empty <;> cases sEq val ByteArray.empty <;> rfl
  by_cases h5 : k = 5
  · simp [h5]
    cases sEq key ByteArray.empty <;> cases sEq val ByteArray.empty <;> rfl
  have b : ∀ z : Int, k ≠ z → (k == z) = false := fun z h => beq_eq_false_iff_ne.2 h
  simp [h1, h2, h3, h4, h5, b 1 h1, b 2 h2, b 3 h3, b 4 h4, b 5 h5]
theorem commandOK_s (k s q : Int) (key val : ByteArray) : s_CommandOK k s q key val = some (cmdOK k s q key val) := by
  unfold s_CommandOK s_CommandOK.F cmdOK
  have hv : decide ((ByteArray.size val : Int) > 60) = !decide (val.size ≤ 60) := by
    by_cases h : val.size ≤ 60
    · rw [decide_f (by omega), decide_t h]; rfl
    · rw [decide_t (by omega), decide_f h]; rfl
  simp only [l01In_eq, l02Key_eq, Option.bind_some, s_CommandOK.j1, s_CommandOK.j2, hv]
  show cond (!inShort s) _ _ = _
  rw [show (decide (0 ≤ q) && decide (q ≤ 65535)) = inShort q from rfl]
  cases inShort s <;> cases inShort q <;> cases decide (val.size ≤ 60) <;> simp only [Bool.not_true, Bool.not_false, cond_true, cond_false, Bool.false_and, Bool.true_and]
  by_cases h1 : k = 1
  · simp [h1]
  by_cases h2 : k = 2
  · simp [h2]
  by_cases h3 : k = 3
  · simp [h3]
    cases isKeyB key <;> rfl
  by_cases h4 : k = 4
  · simp [h4]
    cases sEq key ByteArray.empty <;> cases sEq val ByteArray.empty <;> rfl
  by_cases h5 : k = 5
  · simp [h5]
    cases sEq key ByteArray.empty <;> cases sEq val ByteArray.empty <;> rfl
  have b : ∀ z : Int, k ≠ z → (k == z) = false := fun z h => beq_eq_false_iff_ne.2 h
  simp [h1, h2, h3, h4, h5, b 1 h1, b 2 h2, b 3 h3, b 4 h4, b 5 h5]

/-! ### Bytes of commands -/
def cntB (l : List Int) : List Int := (l.length : Int) % 256 :: l
def cmdB (k s q : Int) (K V : List Int) : List Int := beL k 1 ++ beL s 2 ++ beL q 2 ++ cntB K ++ cntB V
theorem beL1 (n : Int) : beL n 1 = [n % 256] := rfl
theorem beL2 (n : Int) : beL n 2 = [n / 256 % 256, n % 256] := rfl
theorem beL4 (n : Int) : beL n 4 = [n / 16777216 % 256, n / 65536 % 256, n / 256 % 256, n % 256] := by
  show [n / 256 / 256 / 256 % 256, n / 256 / 256 % 256, n / 256 % 256, n % 256] = _
  rw [show n / 256 / 256 / 256 = n / 16777216 by omega, show n / 256 / 256 = n / 65536 by omega]
theorem cntB_bytes {l : List Int} (h : IsBytes l) : IsBytes (cntB l) := IsBytes.cons (by omega) (by omega) h
theorem cmdB_bytes {k s q : Int} {K V : List Int} (hK : IsBytes K) (hV : IsBytes V) : IsBytes (cmdB k s q K V) :=
  ((((beL_bytes _ _).append (beL_bytes _ _)).append (beL_bytes _ _)).append (cntB_bytes hK)).append (cntB_bytes hV)
theorem cmdB_length (k s q : Int) (K V : List Int) : (cmdB k s q K V).length = 7 + K.length + V.length := by
  simp [cmdB, cntB, beL_length]
  omega
theorem strL_sz (l : List Int) : (strL l).size = l.length := strL_size l
theorem number1 (x : Int) : i_number x 1 = some (strL (beL x 1)) := number_eq x 1 (by omega)
theorem number2 (x : Int) : i_number x 2 = some (strL (beL x 2)) := number_eq x 2 (by omega)
theorem number4 (x : Int) : i_number x 4 = some (strL (beL x 4)) := number_eq x 4 (by omega)
theorem counted_eq (l : List Int) (h : l.length ≤ 1000000000000) : i_counted (strL l) = some (strL (cntB l)) := by
  unfold i_counted i_counted.F
  rw [number1, Option.bind_some, grd_of (gCat_t (by rw [strL_size, strL_size, beL_length]; omega)), strL_append, strL_size, beL1]
  simp [cntB]
theorem cmdBytes_i (k s q : Int) (K V : List Int) (hK : K.length ≤ 1000000) (hV : V.length ≤ 1000000) : i_Command_bytes k s q (strL K) (strL V) = some (strL (cmdB k s q K V)) := by
  unfold i_Command_bytes i_Command_bytes.F
  simp only [number1, number2, counted_eq K (by omega), counted_eq V (by omega), bs, strL_append]
  have e : ∀ l m : List Int, l.length + m.length ≤ 100000000 → gCat (strL l) (strL m) = true := fun l m h => by
    refine gCat_t ?_
    rw [strL_size, strL_size]
    omega
  rw [grd_of (e _ _ (by simp [beL_length])), grd_of (e _ _ (by simp [beL_length])), grd_of (e _ _ (by simp [beL_length, cntB]; omega)), grd_of (e _ _ (by simp [beL_length, cntB]; omega))]
  simp only [cmdB]
theorem two_eq (n : Int) (h0 : 0 ≤ n) (h1 : n ≤ 65535) : s_l02Two n = some (beL n 2) := by
  unfold s_l02Two s_l02Two.F
  rw [grd_of (gNz_t (by decide)), tdiv_pos h0, wr (by omega) (by omega), wr8m, wr8m, beL2]
theorem four_eq (n : Int) : s_l02Four n = some (beL n 4) := by
  unfold s_l02Four s_l02Four.F
  rw [grd_of (gSh_t (by decide)), grd_of (gSh_t (by decide)), grd_of (gSh_t (by decide)), shr24, shr16, shr8, wr8m, wr8m, wr8m, wr8m, beL4]
theorem cmdBytes_s (k s q : Int) (K V : List Int) (hK : IsBytes K) (hV : IsBytes V) (hKl : K.length ≤ 1000000) (hVl : V.length ≤ 1000000) (hs : inShort s = true) (hq : inShort q = true) : s_l02Bytes k s q (strL K) (strL V) = some (cmdB k s q K V) := by
  simp only [inShort, Bool.and_eq_true, decide_eq_true_iff] at hs hq
  unfold s_l02Bytes s_l02Bytes.F
  simp only [two_eq s hs.1 hs.2, two_eq q hq.1 hq.2, bs, bytesL_strL hK, bytesL_strL hV, strL_size, wr8m]
  rw [grd_of (gRm_t (by simp [beL_length])), grd_of (gRm_t (by simp [beL_length])), grd_of (gRm_t (by simp [beL_length])), grd_of (gRm_t (by simp [beL_length]; omega)), grd_of (gRm_t (by simp [beL_length]; omega)), grd_of (gRm_t (by simp [beL_length]; omega))]
  simp [cmdB, cntB, beL1]

/-! ### Commands read -/
theorem rnum1 (a : Int) (l : List Int) (hb : IsBytes (a :: l)) : i_reader_number (strL (a :: l)) false 1 = some (a, strL l, false) := by
  have := rnum_ok (a :: l) hb 1 (by omega) (by simp)
  simpa [beN] using this
theorem rnum2 (a b : Int) (l : List Int) (hb : IsBytes (a :: b :: l)) : i_reader_number (strL (a :: b :: l)) false 2 = some (a * 256 + b, strL l, false) := by
  have := rnum_ok (a :: b :: l) hb 2 (by omega) (by simp)
  simpa [beN] using this
theorem rnum4 (a b c d : Int) (l : List Int) (hb : IsBytes (a :: b :: c :: d :: l)) : i_reader_number (strL (a :: b :: c :: d :: l)) false 4 = some (((a * 256 + b) * 256 + c) * 256 + d, strL l, false) := by
  have := rnum_ok (a :: b :: c :: d :: l) hb 4 (by omega) (by simp)
  simpa [beN] using this
theorem IsBytes.tail {a : Int} {l : List Int} (h : IsBytes (a :: l)) : IsBytes l := fun y hy => h y (List.mem_cons_of_mem _ hy)
/-- A counted text at the front: its bytes, what is behind. -/
def pCnt : List Int → Option (List Int × List Int)
  | [] => none
  | a :: l => if a ≤ l.length then some (l.take a.toNat, l.drop a.toNat) else none
theorem rcnt_eq (l : List Int) (hb : IsBytes l) : ∃ r, i_reader_counted (strL l) false = some (match pCnt l with | some x => (strL x.1, strL x.2, false) | none => (ByteArray.empty, r, true)) := by
  cases l with
  | nil => exact ⟨_, rcnt_nil⟩
  | cons a l =>
    by_cases h : a ≤ l.length
    · exact ⟨ByteArray.empty, by rw [rcnt_ok a l hb h, pCnt, if_pos h]⟩
    · exact ⟨strL l, by rw [rcnt_no a l hb (by omega), pCnt, if_neg h]⟩
/-- The reference's: a number of one byte and a text of so many. -/
theorem scnt_eq (l : List Int) (hb : IsBytes l) (hl : l.length ≤ 1000000) (p : Nat) (hp : p ≤ l.length) : ∃ r n, s_l02Reader_number l p false 1 = some (n, r) ∧ r.1 = l ∧
    match pCnt (l.drop p) with
    | some x => r.2.2 = false ∧ s_l02Reader_text l r.2.1 false n = some (strL x.1, l, ((l.length - x.2.length : Nat) : Int), false) ∧ x.2 = l.drop (l.length - x.2.length) ∧ x.2.length ≤ l.length
    | none => ∃ q, s_l02Reader_text l r.2.1 r.2.2 n = some (ByteArray.empty, l, q, true) := by
  have h1 := snum_eq l hb hl 1 (by omega) p hp
  rw [show ((1 : Nat) : Int) = 1 from rfl] at h1
  by_cases hlt : p < l.length
  · rw [if_pos (by omega)] at h1
    have hg := hb.get hlt
    have e1 : beN 0 ((l.drop p).take 1) = l[p] := by rw [drop_cons hlt, List.take_succ_cons, List.take_zero, beN, beN]; omega
    rw [e1] at h1
    refine ⟨_, _, h1, rfl, ?_⟩
    have ht := stext_eq l hl (p + 1) (by omega) l[p] (by omega) (by omega)
    rw [drop_cons hlt, pCnt]
    by_cases h2 : l[p] ≤ ((l.drop (p + 1)).length : Int)
    · rw [if_pos h2]
      have h3 := h2
      rw [List.length_drop] at h3
      rw [if_pos (by omega)] at ht
      refine ⟨rfl, ?_, ?_, ?_⟩
      · show s_l02Reader_text l ((p + 1 : Nat) : Int) false l[p] = _
        rw [ht]
        simp only [List.length_drop]
        congr 4
        omega
      · show List.drop l[p].toNat (List.drop (p + 1) l) = List.drop _ l
        rw [List.drop_drop]
        congr 1
        simp only [List.length_drop]
        omega
      · simp only [List.length_drop]; omega
    · rw [if_neg h2]
      rw [List.length_drop] at h2
      rw [if_neg (by omega)] at ht
      exact ⟨_, ht⟩
  · rw [if_neg (by omega)] at h1
    refine ⟨_, _, h1, rfl, ?_⟩
    rw [List.drop_of_length_le (by omega), pCnt]
    exact ⟨_, stext_bad l _ _⟩
end Go.Proofs.YtdpjbeeokimnaaaA

/-
  SHA-256: the program's hash is the reference's. No condition.
-/
namespace Go.Proofs.YtdpjbeeokimnaaaA
open Go
set_option linter.unusedVariables false
set_option linter.unusedSimpArgs false

def kK : List Int := (s_l01Consts).getD []
theorem consts_eq : s_l01Consts = some kK := rfl
theorem roundWords_eq : i_roundWords = some kK := by rw [i_roundWords_eq]; rfl
def kH : List Int := [1779033703, 3144134277, 1013904242, 2773480762, 1359893119, 2600822924, 528734635, 1541459225]
theorem hashWords_eq : i_hashWords = some kH := by rw [i_hashWords_eq]; rfl
theorem kK_len : kK.length = 64 := by decide
theorem kH_len : kH.length = 8 := by decide
theorem kH_words : IsWords kH := by
  intro x hx
  simp only [kH, List.mem_cons, List.mem_nil_iff, or_false] at hx
  omega
theorem it_loopI {R S : Type} {L : Nat → Int → S → Option R} {N : Nat} {step : Nat → S → S} {fin : S → Option R} (Inv : Nat → S → Prop)
    (hs : ∀ n i s, i < N → Inv i s → L (n + 1) (i : Int) s = L n ((i + 1 : Nat) : Int) (step i s) ∧ Inv (i + 1) (step i s)) (h0 : ∀ n s, Inv N s → L (n + 1) (N : Int) s = fin s) :
    ∀ (m n i : Nat) (s : S), i + m = N → m < n → Inv i s → L n i s = fin (itF step i m s) ∧ Inv N (itF step i m s)
  | 0, n + 1, i, s, e, _, hi => by
    have : i = N := by omega
    subst this
    exact ⟨h0 n s hi, hi⟩
  | m + 1, n + 1, i, s, e, hn, hi => by
    obtain ⟨h1, h2⟩ := hs n i s (by omega) hi
    rw [h1]
    exact it_loopI Inv hs h0 m n (i + 1) _ (by omega) (by omega) h2
/-- How many zeros. -/
def padZ (n : Nat) : Nat := (119 - n % 64) % 64
def padded (l : List Int) : List Int := ((l ++ [128]) ++ List.replicate (padZ l.length) 0) ++ beL (8 * (l.length : Int)) 8
theorem padded_len (l : List Int) : (padded l).length = 64 * ((l.length + 72) / 64) := by
  simp only [padded, List.length_append, List.length_singleton, List.length_replicate, beL_length, padZ]
  omega
theorem padded_bytes {l : List Int} (h : IsBytes l) : IsBytes (padded l) := by
  refine ((h.append (IsBytes.cons (by decide) (by decide) IsBytes.nil)).append fun y hy => ?_).append (beL_bytes _ _)
  rw [List.eq_of_mem_replicate hy]
  decide
def stH (all : List Int) (j : Nat) (h : List Int) : List Int := blockF h kK ((all.drop (64 * j)).take 64)
def stO (h : List Int) (i : Nat) (out : List Int) : List Int := out ++ beL (rdE k32 h i) 4
def shaO (h : List Int) : List Int := itF (stO h) 0 8 []
/-- THE HASH. -/
def sha (l : List Int) : List Int := shaO (itF (stH (padded l)) 0 ((l.length + 72) / 64) kH)
theorem shaO_eq (h : List Int) : shaO h = beL (rdE k32 h 0) 4 ++ beL (rdE k32 h 1) 4 ++ beL (rdE k32 h 2) 4 ++ beL (rdE k32 h 3) 4 ++ beL (rdE k32 h 4) 4 ++ beL (rdE k32 h 5) 4 ++ beL (rdE k32 h 6) 4 ++ beL (rdE k32 h 7) 4 := by
  simp only [shaO, itF, stO, List.nil_append]
theorem sha_len (l : List Int) : (sha l).length = 32 := by
  rw [sha, shaO_eq]
  simp only [List.length_append, beL_length]
theorem sha_bytes (l : List Int) : IsBytes (sha l) := by
  rw [sha, shaO_eq]
  exact (((((((beL_bytes _ _).append (beL_bytes _ _)).append (beL_bytes _ _)).append (beL_bytes _ _)).append (beL_bytes _ _)).append (beL_bytes _ _)).append (beL_bytes _ _)).append (beL_bytes _ _)
def HOk (h : List Int) : Prop := h.length = 8 ∧ IsWords h
theorem sub_block (all : List Int) (j : Nat) : sub all (64 * (j : Int)) (64 * (j : Int) + 64) = (all.drop (64 * j)).take 64 := by
  unfold sub
  rw [show (64 * (j : Int) + 64).toNat = 64 * j + 64 by omega, show (64 * (j : Int)).toNat = 64 * j by omega, List.drop_take, show 64 * j + 64 - 64 * j = 64 by omega]
theorem repeat_eq (z : Nat) (hz : z ≤ 100) : strings_Repeat (⟨#[0]⟩ : ByteArray) (z : Int) = some (strL (List.replicate z 0)) := by
  rw [strings_Repeat_eq]
  unfold strings_Repeat.F
  rw [grd_of (by
    rw [gRep_eq]
    have : ByteArray.size (⟨#[0]⟩ : ByteArray) = 1 := rfl
    exact decide_eq_true ⟨by omega, by omega, by rw [this]; omega⟩), repS_eq, Int.toNat_natCast]
  congr 1
  apply ba_ext
  rw [strL_list]
  show (Lib.repeatL [(0 : UInt8)] z).toArray.toList = _
  rw [List.map_replicate]
  clear hz
  show Lib.repeatL [(0 : UInt8)] z = List.replicate z (UInt8.ofNat (0 : Int).toNat)
  induction z with
  | zero => rfl
  | succ z ih =>
    rw [List.replicate_succ, ← ih]
    rfl
theorem byte4 {x : Int} (h0 : 0 ≤ x) (h1 : x < 4294967296) : [IntKind.wrap .u8 (iShr .u32 x 24), IntKind.wrap .u8 (iShr .u32 x 16), IntKind.wrap .u8 (iShr .u32 x 8), IntKind.wrap .u8 x] = beL x 4 := by
  have e : ∀ n : Int, 0 ≤ n → n ≤ 32 → iShr .u32 x n = x / 2 ^ n.toNat := fun n hn hn' => by
    unfold iShr
    rw [show min n.toNat (IntKind.bits .u32) = n.toNat by simp [IntKind.bits]; omega]
    rw [Int.fdiv_eq_ediv_of_nonneg]
    exact Int.pow_nonneg (by decide)
  rw [e 24 (by decide) (by decide), e 16 (by decide) (by decide), e 8 (by decide) (by decide), beL4]
  simp only [wr8m]
  rfl
theorem hash_i (l : List Int) (hb : IsBytes l) (hl : l.length ≤ 1000000000000) : i_hash (strL l) = some (strL (sha l)) := by
  rw [i_hash_eq]
  unfold i_hash.F
  have h128 : (⟨#[128]⟩ : ByteArray) = strL [128] := rfl
  have ez : Int.tmod (IntKind.wrap .i64 ((119 : Int) - Int.tmod (l.length : Int) 64)) 64 = (padZ l.length : Nat) := by
    rw [tmod_pos (x := (l.length : Int)) (by omega), wr (by omega) (by omega), tmod_pos (by omega)]
    unfold padZ
    omega
  rw [h128, grd_of (gCat_t (by rw [strL_size, strL_size]; simp; omega)), grd_of (gNz_t (by decide)), grd_of (gNz_t (by decide)), strL_size, ez, repeat_eq _ (by unfold padZ; omega), bs, strL_append]
  rw [grd_of (gCat_t (by rw [strL_size, strL_size]; simp [padZ]; omega)), wr (by omega) (by omega)]
  have hn := number_eq (8 * (l.length : Int)) 8 (by decide)
  rw [show (((8 : Nat) : Int)) = 8 from rfl] at hn
  rw [hn, bs, strL_append, grd_of (gCat_t (by rw [strL_size, strL_size]; simp [padZ, beL_length]; omega)), strL_append, hashWords_eq, bs, roundWords_eq, bs]
  show i_hash.l1 (fun words => i_hash.l2 (fun out => some out) fuel ByteArray.empty words (0 : Int)) fuel (strL (padded l)) (0 : Int) kH kK = _
  have hpl := padded_len l
  have hpb := padded_bytes hb
  have key := it_loop (L := fun n j h => i_hash.l1 (fun words => i_hash.l2 (fun out => some out) fuel ByteArray.empty words (0 : Int)) n (strL (padded l)) (64 * j) h kK) (N := (l.length + 72) / 64) (step := stH (padded l)) (fin := fun h => i_hash.l2 (fun out => some out) fuel ByteArray.empty h (0 : Int)) HOk ?_ ?_ ((l.length + 72) / 64) fuel 0 kH (by omega) (by rw [fuel_eq]; omega) ⟨kH_len, kH_words⟩
  · obtain ⟨h1, h2⟩ := key
    refine h1.trans ?_
    rw [sha]
    obtain ⟨hh, hhd⟩ : ∃ hh, hh = itF (stH (padded l)) 0 ((l.length + 72) / 64) kH := ⟨_, rfl⟩
    rw [← hhd] at h2 ⊢
    have k2 := it_loopI (L := fun n i out => i_hash.l2 (fun out => some out) n (strL out) hh i) (N := 8) (step := stO hh) (fin := fun out => some (strL out)) (fun i out => out.length = 4 * i) ?_ ?_ 8 fuel 0 [] (by omega) (by rw [fuel_eq]; omega) (by simp)
    · exact k2.1
    · intro n i out hi ho
      have hw := h2.2 _ (List.getElem_mem (show i < hh.length by rw [h2.1]; exact hi))
      simp only [i_hash.l2]
      rw [decide_t (by omega), ct, grd_of (gIx_t (by omega) (by omega)), Int.toNat_natCast, rdE_at (k := k32) (show i < hh.length by rw [h2.1]; exact hi), wr (by omega) (by omega), number4, bs, grd_of (gCat_t (by rw [strL_size, strL_size, beL_length]; omega)), strL_append, wr (by omega) (by omega), show ((i : Int) + 1) = ((i + 1 : Nat) : Int) by omega]
      refine ⟨?_, ?_⟩
      · rw [stO, rdE_at (k := k32) (show i < hh.length by rw [h2.1]; exact hi)]
      · simp only [stO, List.length_append, beL_length]
        omega
    · intro n out ho
      simp only [i_hash.l2]
      rw [decide_f (by omega), cf]
  · intro n j h hj hh
    have hj' : 64 * j + 64 ≤ (padded l).length := by rw [hpl]; omega
    have hpl' : (padded l).length ≤ 1000000000100 := by rw [hpl]; omega
    simp only [i_hash.l1]
    rw [strL_size, decide_t (by omega), ct, wr (by omega) (by omega), grd_of (gSl_t (by omega) (by omega) (by omega)), cut_strL, sub_block, blockHash_eq h kK _ ((hpb.drop _).take _) hh.1 kK_len (by simp; omega), bs, show (64 * (j : Int) + 64) = 64 * ((j + 1 : Nat) : Int) by omega]
    exact ⟨rfl, blockF_len _ _ _, blockF_words _ _ _⟩
  · intro n h hh
    simp only [i_hash.l1]
    rw [strL_size, hpl, decide_f (by omega), cf]
theorem pad_s (kke : List Int → List Int → List Int → Option ByteArray) (b h : List Int) : ∀ (m n : Nat) (acc : List Int), m < n → m < 64 → (acc.length + m) % 64 = 56 → acc.length + m ≤ 1000000001000 → s_l01Hash.l1 kke n b h acc = kke b h (acc ++ List.replicate m 0)
  | 0, n + 1, acc, _, _, e, hl => by
    simp only [s_l01Hash.l1]
    rw [grd_of (gNz_t (by decide)), tmod_pos (by omega), show ((((acc.length : Nat) : Int) % 64) != 56) = false from bne_eq_false_iff_eq.2 (by omega), cf]
    simp
  | m + 1, n + 1, acc, hn, hm, e, hl => by
    simp only [s_l01Hash.l1]
    rw [grd_of (gNz_t (by decide)), tmod_pos (by omega), show (((acc.length : Int) % 64) != 56) = true by simp; omega, ct, grd_of (gRm_t (by simp; omega))]
    rw [pad_s kke b h m n (acc ++ [0]) (by omega) (by omega) (by simp; omega) (by simp; omega), List.append_assoc]
    rfl
theorem len8 (x : Int) (acc : List Int) : itF (fun (j : Nat) (acc : List Int) => acc ++ [x / 2 ^ (8 * (7 - j)) % 256]) 0 8 acc = acc ++ beL x 8 := by
  simp only [itF, List.append_assoc]
  congr 1
  show [x / 2 ^ 56 % 256, x / 2 ^ 48 % 256, x / 2 ^ 40 % 256, x / 2 ^ 32 % 256, x / 2 ^ 24 % 256, x / 2 ^ 16 % 256, x / 2 ^ 8 % 256, x / 2 ^ 0 % 256] = [x / 256 / 256 / 256 / 256 / 256 / 256 / 256 % 256, x / 256 / 256 / 256 / 256 / 256 / 256 % 256, x / 256 / 256 / 256 / 256 / 256 % 256, x / 256 / 256 / 256 / 256 % 256, x / 256 / 256 / 256 % 256, x / 256 / 256 % 256, x / 256 % 256, x % 256]
  have e : ∀ k : Nat, (2 : Int) ^ k = 2 ^ k := fun _ => rfl
  rw [show (2 : Int) ^ 56 = 72057594037927936 by decide, show (2 : Int) ^ 48 = 281474976710656 by decide, show (2 : Int) ^ 40 = 1099511627776 by decide, show (2 : Int) ^ 32 = 4294967296 by decide, show (2 : Int) ^ 24 = 16777216 by decide, show (2 : Int) ^ 16 = 65536 by decide, show (2 : Int) ^ 8 = 256 by decide, show (2 : Int) ^ 0 = 1 by decide]
  simp only [Int.ediv_ediv_of_nonneg (show (0 : Int) ≤ 256 by decide), Int.ediv_one]
  simp
  omega
theorem hash_s (l : List Int) (hb : IsBytes l) (hl : l.length ≤ 1000000000000) : s_l01Hash l = some (strL (sha l)) := by
  rw [s_l01Hash_eq]
  unfold s_l01Hash.F
  rw [grd_of (gRm_t (by simp; omega)), grd_of (gRm_t (by simp; omega)), List.nil_append]
  rw [pad_s _ l _ (padZ l.length) fuel (l ++ [128]) (by rw [fuel_eq]; unfold padZ; omega) (by unfold padZ; omega) (by simp [padZ]; omega) (by simp [padZ]; omega)]
  have hpl := padded_len l
  have hpb := padded_bytes hb
  have e8 : IntKind.wrap .i64 (8 * (l.length : Int)) = 8 * (l.length : Int) := wr (by omega) (by omega)
  have key := fun (kke : List Int → List Int → Option ByteArray) => it_loopI (L := fun n j all => s_l01Hash.l2 kke n l (7 - j) kH all) (N := 8) (step := fun (j : Nat) (acc : List Int) => acc ++ [8 * (l.length : Int) / 2 ^ (8 * (7 - j)) % 256]) (fin := fun all => kke kH all) (fun i out => out.length ≤ 1000000001000 + i) (by
    intro n j acc hj ha
    have es : IntKind.wrap .u64 (IntKind.wrap .i64 (8 * (7 - (j : Int)))) = ((8 * (7 - j) : Nat) : Int) := by
      rw [wr (by omega) (by omega)]
      simp only [IntKind.wrap, IntKind.signed, IntKind.bits]
      simp
      omega
    simp only [s_l01Hash.l2]
    rw [decide_t (by omega), ct, es, grd_of (gSh_t (by omega)), grd_of (gRm_t (by simp; omega)), e8, shr_eq (by omega) (by omega), Int.toNat_natCast, wr8m, wr (by omega) (by omega), show (7 - (j : Int) - 1) = 7 - ((j + 1 : Nat) : Int) by omega]
    exact ⟨rfl, by simp; omega⟩) (by
    intro n acc ha
    simp only [s_l01Hash.l2]
    rw [decide_f (by omega), cf]) 8 fuel 0 ((l ++ [128]) ++ List.replicate (padZ l.length) 0) (by omega) (by rw [fuel_eq]; omega) (by simp [padZ]; omega)
  refine (key _).1.trans ?_
  rw [len8]
  show (s_l01Consts).bind (fun r => s_l01Hash.l3 (fun h2 => s_l01Hash.l4 (fun out => some (strL out)) fuel (0 : Int) h2 ([] : List Int)) fuel (padded l) (0 : Int) kH r) = _
  rw [consts_eq, bs]
  have k3 := it_loop (L := fun n j h => s_l01Hash.l3 (fun h2 => s_l01Hash.l4 (fun out => some (strL out)) fuel (0 : Int) h2 ([] : List Int)) n (padded l) (64 * j) h kK) (N := (l.length + 72) / 64) (step := stH (padded l)) (fin := fun h => s_l01Hash.l4 (fun out => some (strL out)) fuel (0 : Int) h ([] : List Int)) HOk ?_ ?_ ((l.length + 72) / 64) fuel 0 kH (by omega) (by rw [fuel_eq]; omega) ⟨kH_len, kH_words⟩
  · obtain ⟨h1, h2⟩ := k3
    refine h1.trans ?_
    rw [sha]
    obtain ⟨hh, hhd⟩ : ∃ hh, hh = itF (stH (padded l)) 0 ((l.length + 72) / 64) kH := ⟨_, rfl⟩
    rw [← hhd] at h2 ⊢
    have k2 := it_loopI (L := fun n i out => s_l01Hash.l4 (fun out => some (strL out)) n i hh out) (N := 8) (step := stO hh) (fin := fun out => some (strL out)) (fun i out => out.length = 4 * i) ?_ ?_ 8 fuel 0 [] (by omega) (by rw [fuel_eq]; omega) (by simp)
    · exact k2.1
    · intro n i out hi ho
      have hil : i < hh.length := by rw [h2.1]; exact hi
      have hil' : (i : Int) < (List.length (α := El k32) hh : Int) := by have : List.length (α := El k32) hh = 8 := h2.1; omega
      have hw := h2.2 _ (List.getElem_mem hil)
      simp only [s_l01Hash.l4]
      rw [decide_t (by omega), ct, grd_of (gIx_t (by omega) hil'), gSh_l (by decide), grd_of (gIx_t (by omega) hil'), gSh_l (by decide), grd_of (gIx_t (by omega) hil'), gSh_l (by decide), grd_of (gIx_t (by omega) hil'), grd_of (gRm_t (by simp; omega)), Int.toNat_natCast, rdE_at (k := k32) hil, byte4 hw.1 hw.2, wr (by omega) (by omega), show ((i : Int) + 1) = ((i + 1 : Nat) : Int) by omega]
      refine ⟨?_, ?_⟩
      · rw [stO, rdE_at (k := k32) hil]
      · simp only [stO, List.length_append, beL_length]
        omega
    · intro n out ho
      simp only [s_l01Hash.l4]
      rw [decide_f (by omega), cf]
  · intro n j h hj hh
    have hj' : 64 * j + 64 ≤ (padded l).length := by rw [hpl]; omega
    have hpl' : (padded l).length ≤ 1000000000100 := by rw [hpl]; omega
    simp only [s_l01Hash.l3]
    rw [decide_t (by omega), ct, wr (by omega) (by omega), grd_of (gSl_t (by omega) (by omega) (by omega)), sub_block, block_s h _ kK ((hpb.drop _).take _) hh.1 kK_len (by simp; omega), bs, show (64 * (j : Int) + 64) = 64 * ((j + 1 : Nat) : Int) by omega]
    exact ⟨rfl, blockF_len _ _ _, blockF_words _ _ _⟩
  · intro n h hh
    simp only [s_l01Hash.l3]
    rw [hpl, decide_f (by omega), cf]
end Go.Proofs.YtdpjbeeokimnaaaA

/-
  Loops of the laws' helpers: rows copied, held against each other, measured, marked. No condition.
-/
namespace Go.Proofs.YtdpjbeeokimnaaaA
open Go
set_option linter.unusedVariables false
set_option linter.unusedSimpArgs false

theorem fuel_big {n : Nat} (h : n < 18446744073709551616) : n < fuel := by rw [fuel_eq]; exact h
theorem setE_eq {k : Kd} (xs : List (El k)) (i : Nat) (e : El k) : setE k xs i e = xs.set i e := rfl
theorem setE_length {k : Kd} (xs : List (El k)) (i : Nat) (e : El k) : (setE k xs i e).length = xs.length := by simp [setE]
theorem rdE_setE {k : Kd} (xs : List (El k)) (i : Nat) (e : El k) (h : i < xs.length) : rdE k (setE k xs i e) i = e := by
  rw [rdE_at (by rw [setE_length]; exact h)]
  simp [setE]
theorem setE_setE {k : Kd} (xs : List (El k)) (i : Nat) (e e' : El k) : setE k (setE k xs i e) i e' = setE k xs i e' := by simp [setE]
theorem set_pre {α : Type} {pre rest : List α} {y x : α} {i : Nat} (h : pre.length = i) : (pre ++ y :: rest).set i x = (pre ++ [x]) ++ rest := by
  subst h
  simp
/-- Copying. -/
theorem copy_loop {k : Kd} {R : Type} {L : Nat → Int → List (El k) → Option R} {a : List (El k)} {fin : List (El k) → Option R}
    (hs : ∀ (n i : Nat) (out : List (El k)) (h : i < a.length), out.length = a.length → L (n + 1) i out = L n ((i + 1 : Nat) : Int) (out.set i a[i])) (h0 : ∀ n out, L (n + 1) a.length out = fin out) :
    ∀ (m n i : Nat) (out : List (El k)), i + m = a.length → m < n → out.length = a.length → out.take i = a.take i → L n i out = fin a
  | 0, n + 1, i, out, e, _, hl, ht => by
    have : i = a.length := by omega
    subst this
    rw [h0]
    congr 1
    rw [List.take_of_length_le (by omega), List.take_of_length_le (Nat.le_refl _)] at ht
    exact ht
  | m + 1, n + 1, i, out, e, hn, hl, ht => by
    have hi : i < a.length := by omega
    rw [hs n i out hi hl]
    refine copy_loop hs h0 m n (i + 1) _ (by omega) (by omega) (by simpa using hl) ?_
    rw [take_snoc (by simpa using (show i < out.length by omega)), take_snoc hi, List.getElem_set_self, List.take_set_of_le (Nat.le_refl _), ht]
/-- A loop of as many rounds as a row has elements, each of which goes on. -/
theorem pass_loop {R S : Type} {L : Nat → S → Int → Option R} {len : Nat} {step : S → Nat → S} {fin : S → Option R} (Inv : Nat → S → Prop)
    (hs : ∀ n s i, i < len → Inv i s → L (n + 1) s (i : Int) = L n (step s i) ((i + 1 : Nat) : Int)) (hI : ∀ s i, i < len → Inv i s → Inv (i + 1) (step s i)) (h0 : ∀ n s, Inv len s → L (n + 1) s (len : Int) = fin s) :
    ∀ (m n i : Nat) (s : S), i + m = len → m < n → Inv i s → ∃ s', L n s i = fin s' ∧ Inv len s'
  | 0, n + 1, i, s, e, _, hi => by
    have : i = len := by omega
    subst this
    exact ⟨s, h0 n s hi, hi⟩
  | m + 1, n + 1, i, s, e, hn, hi => by
    have h1 : i < len := by omega
    rw [hs n s i h1 hi]
    exact pass_loop Inv hs hI h0 m n (i + 1) _ (by omega) (by omega) (hI s i h1 hi)
/-- What is marked: element after element, from a number on. -/
def mkL {α : Type} (f : Int → α) (c : Int) : Int → Nat → List α
  | _, 0 => []
  | k, n + 1 => f k :: mkL f c (k + c) n
theorem mkL_length {α : Type} (f : Int → α) (c : Int) (k : Int) (n : Nat) : (mkL f c k n).length = n := by
  induction n generalizing k with
  | zero => rfl
  | succ n ih => simp [mkL, ih]
theorem mkL_get {α : Type} (f : Int → α) (c : Int) (k : Int) (n i : Nat) (h : i < (mkL f c k n).length) : (mkL f c k n)[i] = f (k + c * i) := by
  induction n generalizing k i with
  | zero => simp [mkL] at h
  | succ n ih =>
    cases i with
    | zero => simp [mkL]
    | succ i =>
      simp only [mkL, List.getElem_cons_succ]
      rw [ih]
      congr 1
      rw [Int.natCast_add, Int.mul_add]
      omega
theorem mark_loop {k : Kd} {R : Type} {L : Nat → Int → Int → List (El k) → Option R} {f : Int → El k} {c : Int} (hc : 0 ≤ c) {B : Int} {fin : Int → List (El k) → Option R}
    (hs : ∀ (n i : Nat) (q : Int) (a : List (El k)), i < a.length → a.length ≤ 1048576 → 0 < q → q ≤ B → L (n + 1) q i a = L n (q + c) ((i + 1 : Nat) : Int) (a.set i (f q))) (h0 : ∀ n q a, L (n + 1) q (List.length a : Int) a = fin q a) :
    ∀ (rest pre : List (El k)) (n : Nat) (q : Int), rest.length < n → pre.length + rest.length ≤ 1048576 → 0 < q → q + c * rest.length ≤ B → L n q pre.length (pre ++ rest) = fin (q + c * rest.length) (pre ++ mkL f c q rest.length)
  | [], pre, n + 1, q, _, _, _, _ => by
    have := h0 n q (pre ++ [])
    simp only [List.append_nil] at this ⊢
    rw [this]
    simp [mkL]
  | y :: rest, pre, n + 1, q, hn, hN, hq, hB => by
    have hl : ((y :: rest).length : Int) = rest.length + 1 := by simp
    have e : c * ((y :: rest).length : Int) = c * rest.length + c := by rw [hl, Int.mul_add, Int.mul_one]
    have hp : 0 ≤ c * (rest.length : Int) := Int.mul_nonneg hc (by omega)
    rw [e] at hB
    rw [hs n pre.length q (pre ++ y :: rest) (by simp) (by simp at hN ⊢; omega) hq (by omega), set_pre rfl]
    have := mark_loop hc hs h0 rest (pre ++ [f q]) n (q + c) (by simp at hn; omega) (by simp at hN ⊢; omega) (by omega) (by omega)
    rw [List.length_append, List.length_singleton] at this
    rw [this, e, List.append_assoc]
    show fin (q + c + c * (rest.length : Int)) (pre ++ (f q :: mkL f c (q + c) rest.length)) = fin _ (pre ++ (f q :: mkL f c (q + c) rest.length))
    congr 1
    omega
theorem held_loop {k : Kd} {R : Type} {L : Nat → List (El k) → Int → Int → Option R} {f : Int → El k} {c : Int} (hc : 0 ≤ c) {B : Int} {a : List (El k)} {fin : Int → Option R}
    (hs : ∀ (n i : Nat) (q : Int) (h : i < a.length), a[i] = f q → 0 < q → q ≤ B → L (n + 1) a q i = L n a (q + c) ((i + 1 : Nat) : Int)) (h0 : ∀ n q, L (n + 1) a q (List.length a : Int) = fin q) {q0 : Int} (ha : a = mkL f c q0 a.length) (hq0 : 0 < q0) (hB : q0 + c * a.length ≤ B) :
    ∀ (m n i : Nat), i + m = a.length → m < n → L n a (q0 + c * i) i = fin (q0 + c * a.length)
  | 0, n + 1, i, e, _ => by
    have : i = a.length := by omega
    subst this
    exact h0 n _
  | m + 1, n + 1, i, e, hn => by
    have hi : i < a.length := by omega
    have h1 : c * (i : Int) ≤ c * a.length := Int.mul_le_mul_of_nonneg_left (by omega) hc
    have h2 : 0 ≤ c * (i : Int) := Int.mul_nonneg hc (by omega)
    have hg : a[i] = f (q0 + c * i) := by
      have h3 : i < (mkL f c q0 a.length).length := by rw [mkL_length]; exact hi
      have := mkL_get f c q0 a.length i h3
      rw [← this]
      congr 1
    rw [hs n i _ hi hg (by omega) (by omega)]
    have := held_loop hc hs h0 ha hq0 hB m n (i + 1) (by omega) (by omega)
    rw [← this]
    congr 1
    rw [Int.natCast_add, Int.mul_add]
    omega
end Go.Proofs.YtdpjbeeokimnaaaA

/-
  Ways up a tree of hashes: the program's prover and the reference's. No condition.
-/
namespace Go.Proofs.YtdpjbeeokimnaaaA
open Go
set_option linter.unusedVariables false
set_option linter.unusedSimpArgs false

def nodeL (a b : ByteArray) : List Int := 1 :: (bytesL a ++ bytesL b)
def nodeV (a b : ByteArray) : ByteArray := strL (sha (nodeL a b))
def leafV (a : ByteArray) : ByteArray := strL (sha (0 :: bytesL a))
theorem nodeV_size (a b : ByteArray) : (nodeV a b).size = 32 := by rw [nodeV, strL_size, sha_len]
theorem leafV_size (a : ByteArray) : (leafV a).size = 32 := by rw [leafV, strL_size, sha_len]
theorem nodeL_bytes (a b : ByteArray) : IsBytes (nodeL a b) := IsBytes.cons (by decide) (by decide) ((IsBytes.bytesL a).append (IsBytes.bytesL b))
theorem node_str (a b : ByteArray) : ((⟨#[1]⟩ : ByteArray) ++ a) ++ b = strL (nodeL a b) := by
  have h : (⟨#[1]⟩ : ByteArray) = strL [1] := rfl
  rw [h]
  conv => lhs; rw [← strL_bytesL a, ← strL_bytesL b]
  rw [strL_append, strL_append]
  rfl
theorem nodeHash_i (a b : ByteArray) (ha : a.size ≤ 1000000000) (hb : b.size ≤ 1000000000) : i_nodeHash a b = some (nodeV a b) := by
  unfold i_nodeHash i_nodeHash.F
  have h1 : ByteArray.size (⟨#[1]⟩ : ByteArray) = 1 := rfl
  rw [grd_of (gCat_t (by omega)), grd_of (gCat_t (by rw [ByteArray.size_append]; omega)), node_str, hash_i _ (nodeL_bytes a b) (by simp [nodeL, bytesL_length]; omega), bs]
  rfl
theorem node_s (a b : ByteArray) (ha : a.size ≤ 1000000000) (hb : b.size ≤ 1000000000) : s_l06Node a b = some (nodeV a b) := by
  unfold s_l06Node s_l06Node.F
  rw [grd_of (gRm_t (by simp [bytesL_length]; omega)), grd_of (gRm_t (by simp [bytesL_length]; omega))]
  have h : ([(1 : Int)] ++ bytesL a) ++ bytesL b = nodeL a b := by simp [nodeL]
  rw [h, hash_s _ (nodeL_bytes a b) (by simp [nodeL, bytesL_length]; omega), bs]
  rfl
theorem leaf_str (a : ByteArray) : (⟨#[0]⟩ : ByteArray) ++ a = strL (0 :: bytesL a) := by
  have h : (⟨#[0]⟩ : ByteArray) = strL [0] := rfl
  rw [h]
  conv => lhs; rw [← strL_bytesL a]
  rw [strL_append]
  rfl
theorem leafHash_i (a : ByteArray) (ha : a.size ≤ 1000000000) : i_leafHash a = some (leafV a) := by
  unfold i_leafHash i_leafHash.F
  have h1 : ByteArray.size (⟨#[0]⟩ : ByteArray) = 1 := rfl
  rw [grd_of (gCat_t (by omega)), leaf_str, hash_i _ (IsBytes.cons (by decide) (by decide) (IsBytes.bytesL a)) (by simp [bytesL_length]; omega), bs]
  rfl
theorem leaf_s (a : ByteArray) (ha : a.size ≤ 1000000000) : s_l06Leaf a = some (leafV a) := by
  unfold s_l06Leaf s_l06Leaf.F
  rw [grd_of (gRm_t (by simp [bytesL_length]; omega))]
  have h : [(0 : Int)] ++ bytesL a = 0 :: bytesL a := rfl
  rw [h, hash_s _ (IsBytes.cons (by decide) (by decide) (IsBytes.bytesL a)) (by simp [bytesL_length]; omega), bs]
  rfl
theorem half_loop {R R' : Type} (kke : Int → Option R) (kke' : Int → Option R') (N : Int) (hN : N ≤ 1000000000) : ∀ (m n : Nat) (k : Int), 1 ≤ k → k < N → N - k ≤ m → m < n →
    ∃ r, i_split.l1 kke n N k = kke r ∧ s_l06Half.l1 kke' n N k = kke' r ∧ 1 ≤ r ∧ r < N
  | 0, n, k, h1, h2, h3, h4 => by omega
  | m + 1, n + 1, k, h1, h2, h3, h4 => by
    simp only [i_split.l1, s_l06Half.l1]
    rw [wr (x := 2 * k) (by omega) (by omega)]
    by_cases h : 2 * k < N
    · rw [decide_t h, ct, ct, wr (x := k * 2) (by omega) (by omega)]
      exact half_loop kke kke' N hN m n (k * 2) (by omega) (by omega) (by omega) (by omega)
    · rw [decide_f h, cf, cf]
      exact ⟨k, rfl, rfl, h1, h2⟩
noncomputable def half (N : Int) : Int := (i_split N).getD 0
theorem half_eq (N : Int) (h : 2 ≤ N) (hN : N ≤ 1000000000) : i_split N = some (half N) ∧ s_l06Half N = some (half N) ∧ 1 ≤ half N ∧ half N < N := by
  obtain ⟨r, h1, h2, h3, h4⟩ := half_loop (fun k => some k) (fun k => some k) N hN N.toNat fuel 1 (by decide) (by omega) (by omega) (by rw [fuel_eq]; omega)
  have h5 : i_split N = some r := h1
  have h6 : s_l06Half N = some r := h2
  have h7 : half N = r := by rw [half, h5]; rfl
  rw [h7]
  exact ⟨h5, h6, h3, h4⟩
/-- The way from a leaf up, the lowest step first: whether the leaf is on the left. -/
noncomputable def ways : Nat → Int → Int → List Bool
  | 0, _, _ => []
  | f + 1, at_, size => if size ≤ 1 then [] else if at_ < half size then ways f at_ (half size) ++ [true] else ways f (at_ - half size) (size - half size) ++ [false]
def foldW : ByteArray → List Bool → List ByteArray → ByteArray
  | own, d :: ds, p :: ps => foldW (if d then nodeV own p else nodeV p own) ds ps
  | own, _, _ => own
theorem foldW_snoc (d : Bool) (p : ByteArray) : ∀ (ds : List Bool) (ps : List ByteArray) (own : ByteArray), ds.length = ps.length → foldW own (ds ++ [d]) (ps ++ [p]) = if d then nodeV (foldW own ds ps) p else nodeV p (foldW own ds ps)
  | [], [], own, _ => rfl
  | [], _ :: _, own, h => by simp at h
  | _ :: _, [], own, h => by simp at h
  | e :: ds, q :: ps, own, h => foldW_snoc d p ds ps _ (by simpa using h)
theorem pnext_eq (proof : List ByteArray) (bad : Bool) (steps : List ByteArray) (h : proof.length ≤ 1000000000) : i_prover_next proof bad steps = some (proof.headD ByteArray.empty, proof.tail, bad || proof.isEmpty, steps) := by
  unfold i_prover_next i_prover_next.F
  cases proof with
  | nil => simp
  | cons p ps =>
    rw [show ((List.length (p :: ps) : Int) == 0) = false by simp; omega, cf, grd_of (gIx_t (by decide) (by simp)), grd_of (gSl_t (by decide) (by simp; omega) (by omega)), sub_drop _ _ rfl]
    simp
    rfl
theorem pnode_eq (proof : List ByteArray) (bad : Bool) (steps : List ByteArray) (a b : ByteArray) (ha : a.size ≤ 1000000000) (hb : b.size ≤ 1000000000) (hs : steps.length ≤ 1000000000) : i_prover_node proof bad steps a b = some (nodeV a b, proof, bad, steps ++ [strL (nodeL a b)]) := by
  unfold i_prover_node i_prover_node.F
  have h1 : ByteArray.size (⟨#[1]⟩ : ByteArray) = 1 := rfl
  rw [grd_of (gCat_t (by omega)), grd_of (gCat_t (by rw [ByteArray.size_append]; omega)), grd_of (gRm_t (by simp; omega)), nodeHash_i a b ha hb, bs, node_str]
def Small (p : List ByteArray) : Prop := p.length ≤ 100000000 ∧ ∀ s ∈ p, s.size ≤ 1000000
theorem Small.head {p : List ByteArray} (h : Small p) : (p.headD ByteArray.empty).size ≤ 1000000 := by
  cases p with
  | nil => exact Nat.zero_le _
  | cons x l => exact h.2 x (by simp)
theorem Small.drop {p : List ByteArray} (h : Small p) (n : Nat) : Small (p.drop n) := ⟨by have := h.1; simp; omega, fun s hs => h.2 s (List.mem_of_mem_drop hs)⟩
theorem drop_headD {p : List ByteArray} {n : Nat} (h : n < p.length) : (p.drop n).headD ByteArray.empty = p[n] := by rw [drop_cons h]; rfl
theorem incl_i (leaf : ByteArray) (hleaf : leaf.size ≤ 1000000) : ∀ (m fu : Nat) (at_ size : Int) (proof : List ByteArray) (bad : Bool) (steps : List ByteArray), size ≤ m → m < fu → m ≤ 1000000 → at_ ≤ 1000000 → -1000000 ≤ at_ - size → Small proof → steps.length + m ≤ 100000000 →
    ∃ own st, i_prover_inclusion fu proof bad steps leaf at_ size = some (own, proof.drop (ways m at_ size).length, bad || decide (proof.length < (ways m at_ size).length), st) ∧ own.size ≤ 1000000 ∧ st.length = steps.length + (ways m at_ size).length ∧ (ways m at_ size).length ≤ m ∧
      ((ways m at_ size).length ≤ proof.length → own = foldW leaf (ways m at_ size) (proof.take (ways m at_ size).length))
  | 0, fu + 1, at_, size, proof, bad, steps, h1, h2, h3, h4, h5, hp, hst => by
    unfold i_prover_inclusion i_prover_inclusion.F
    rw [decide_t (by omega), ct]
    exact ⟨leaf, steps, by simp [ways], hleaf, rfl, Nat.le_refl _, fun _ => by simp [ways, foldW]⟩
  | m + 1, fu + 1, at_, size, proof, bad, steps, h1, h2, h3, h4, h5, hp, hst => by
    unfold i_prover_inclusion i_prover_inclusion.F
    by_cases hz : size ≤ 1
    · rw [decide_t hz, ct]
      have : ways (m + 1) at_ size = [] := by simp [ways, hz]
      rw [this]
      exact ⟨leaf, steps, by simp, hleaf, rfl, by simp, fun _ => by simp [foldW]⟩
    · obtain ⟨e1, _, e3, e4⟩ := half_eq size (by omega) (by omega)
      rw [decide_f hz, cf, e1, bs]
      have hpl := hp.1
      by_cases ha : at_ < half size
      · obtain ⟨own, st, i1, i2, i3, i4, i5⟩ := incl_i leaf hleaf m fu at_ (half size) proof bad steps (by omega) (by omega) (by omega) (by omega) (by omega) hp (by omega)
        have hw : ways (m + 1) at_ size = ways m at_ (half size) ++ [true] := by simp [ways, hz, ha]
        rw [decide_t ha, ct, i1, bs]
        dsimp only
        rw [pnext_eq _ _ _ (by simp; omega), bs]
        dsimp only
        rw [pnode_eq _ _ _ own ((proof.drop (ways m at_ (half size)).length).headD ByteArray.empty) (by omega) (by have := (hp.drop (ways m at_ (half size)).length).head; omega) (by omega), bs, hw]
        refine ⟨nodeV own ((proof.drop (ways m at_ (half size)).length).headD ByteArray.empty), st ++ [strL (nodeL own ((proof.drop (ways m at_ (half size)).length).headD ByteArray.empty))], ?_, by rw [nodeV_size]; omega, by simp [i3]; omega, by simp; omega, fun hle => ?_⟩
        · dsimp only
          rw [List.tail_drop, List.length_append, List.length_singleton]
          congr 4
          rw [Bool.or_assoc]
          congr 1
          rw [Bool.eq_iff_iff, Bool.or_eq_true, decide_eq_true_iff, decide_eq_true_iff, List.isEmpty_iff, List.drop_eq_nil_iff]
          omega
        · rw [List.length_append, List.length_singleton] at hle ⊢
          have hlt : (ways m at_ (half size)).length < proof.length := by omega
          rw [take_snoc hlt, foldW_snoc _ _ _ _ _ (by simp; omega), if_pos rfl, ← i5 (by omega), drop_headD hlt]
      · obtain ⟨own, st, i1, i2, i3, i4, i5⟩ := incl_i leaf hleaf m fu (at_ - half size) (size - half size) proof bad steps (by omega) (by omega) (by omega) (by omega) (by omega) hp (by omega)
        have hw : ways (m + 1) at_ size = ways m (at_ - half size) (size - half size) ++ [false] := by simp [ways, hz, ha]
        rw [decide_f ha, cf, wr (by omega) (by omega), wr (by omega) (by omega), i1, bs]
        dsimp only
        rw [pnext_eq _ _ _ (by simp; omega), bs]
        dsimp only
        rw [pnode_eq _ _ _ ((proof.drop (ways m (at_ - half size) (size - half size)).length).headD ByteArray.empty) own (by have := (hp.drop (ways m (at_ - half size) (size - half size)).length).head; omega) (by omega) (by omega), bs, hw]
        refine ⟨nodeV ((proof.drop (ways m (at_ - half size) (size - half size)).length).headD ByteArray.empty) own, st ++ [strL (nodeL ((proof.drop (ways m (at_ - half size) (size - half size)).length).headD ByteArray.empty) own)], ?_, by rw [nodeV_size]; omega, by simp [i3]; omega, by simp; omega, fun hle => ?_⟩
        · dsimp only
          rw [List.tail_drop, List.length_append, List.length_singleton]
          congr 4
          rw [Bool.or_assoc]
          congr 1
          rw [Bool.eq_iff_iff, Bool.or_eq_true, decide_eq_true_iff, decide_eq_true_iff, List.isEmpty_iff, List.drop_eq_nil_iff]
          omega
        · rw [List.length_append, List.length_singleton] at hle ⊢
          have hlt : (ways m (at_ - half size) (size - half size)).length < proof.length := by omega
          rw [take_snoc hlt, foldW_snoc _ _ _ _ _ (by simp; omega), if_neg (by decide), ← i5 (by omega), drop_headD hlt]
theorem up_s (leaf : ByteArray) (hleaf : leaf.size ≤ 1000000) : ∀ (m fu : Nat) (at_ size : Int) (proof : List ByteArray), 1 ≤ size → size ≤ m → m < fu → m ≤ 1000000 → at_ ≤ 1000000 → -1000000 ≤ at_ - size → Small proof →
    ∃ own, s_l06Up fu leaf at_ size proof = some (own, decide (proof.length = (ways m at_ size).length)) ∧ own.size ≤ 1000000 ∧ (proof.length = (ways m at_ size).length → own = foldW leaf (ways m at_ size) proof)
  | 0, fu + 1, at_, size, proof, h0, h1, h2, h3, h4, h5, hp => by omega
  | m + 1, fu + 1, at_, size, proof, h0, h1, h2, h3, h4, h5, hp => by
    unfold s_l06Up s_l06Up.F
    have hpl := hp.1
    by_cases hz : size = 1
    · subst hz
      have hw : ways (m + 1) at_ 1 = [] := by simp [ways]
      rw [beq_self_eq_true, ct, hw]
      refine ⟨leaf, ?_, hleaf, fun _ => by simp [foldW]⟩
      congr 2
      rw [Bool.eq_iff_iff, beq_iff_eq, decide_eq_true_iff, List.length_nil]
      omega
    · obtain ⟨_, e1, e3, e4⟩ := half_eq size (by omega) (by omega)
      rw [show (size == 1) = false by simp [hz], cf]
      have hz' : ¬ size ≤ 1 := by omega
      by_cases hn : proof.length = 0
      · rw [show ((proof.length : Int) == 0) = true by simp [hn], ct]
        have hne : (ways (m + 1) at_ size).length ≠ 0 := by
          simp only [ways, if_neg hz']
          split <;> simp
        exact ⟨ByteArray.empty, by rw [decide_f (by omega)], Nat.zero_le _, fun h => by omega⟩
      · obtain ⟨rest, last, hrl⟩ : ∃ rest last, proof = rest ++ [last] := ⟨proof.dropLast, proof.getLast (by rintro rfl; exact hn rfl), (List.dropLast_concat_getLast _).symm⟩
        have hlen : proof.length = rest.length + 1 := by rw [hrl]; simp
        have hrs : Small rest := ⟨by omega, fun s hs => hp.2 s (by rw [hrl]; simp [hs])⟩
        have hls : last.size ≤ 1000000 := hp.2 last (by rw [hrl]; simp)
        have hsub : sub proof 0 (rest.length : Int) = rest := by rw [sub_take, Int.toNat_natCast, hrl]; simp
        have hrd : rdE (.str : Kd) proof rest.length = last := by
          rw [rdE_at (k := .str) (show rest.length < List.length (α := ByteArray) proof by omega)]
          simp [hrl]
        rw [show ((proof.length : Int) == 0) = false by simp; intro h; exact hn (by rw [h]; rfl), cf, e1, bs, hlen, wr (by omega) (by omega), show (((rest.length + 1 : Nat) : Int) - 1) = (rest.length : Int) by omega, grd_of (gIx_t (by omega) (by omega)), grd_of (gSl_t (by omega) (by omega) (by omega)), hsub, Int.toNat_natCast, hrd]
        by_cases ha : at_ < half size
        · obtain ⟨own, i1, i2, i3⟩ := up_s leaf hleaf m fu at_ (half size) rest (by omega) (by omega) (by omega) (by omega) (by omega) (by omega) hrs
          have hw : ways (m + 1) at_ size = ways m at_ (half size) ++ [true] := by simp [ways, hz', ha]
          rw [decide_t ha, ct, i1, bs]
          dsimp only
          rw [node_s own last (by omega) (by omega), bs, hw]
          refine ⟨nodeV own last, ?_, by rw [nodeV_size]; omega, fun h => ?_⟩
          · congr 2
            rw [Bool.eq_iff_iff, decide_eq_true_iff, decide_eq_true_iff]
            simp
          · have hh : rest.length = (ways m at_ (half size)).length := by simp at h; exact h
            rw [hrl, foldW_snoc _ _ _ _ _ hh.symm, if_pos rfl, ← i3 hh]
        · obtain ⟨own, i1, i2, i3⟩ := up_s leaf hleaf m fu (at_ - half size) (size - half size) rest (by omega) (by omega) (by omega) (by omega) (by omega) (by omega) hrs
          have hw : ways (m + 1) at_ size = ways m (at_ - half size) (size - half size) ++ [false] := by simp [ways, hz', ha]
          rw [decide_f ha, cf, wr (by omega) (by omega), wr (by omega) (by omega), i1, bs]
          dsimp only
          rw [node_s last own (by omega) (by omega), bs, hw]
          refine ⟨nodeV last own, ?_, by rw [nodeV_size]; omega, fun h => ?_⟩
          · congr 2
            rw [Bool.eq_iff_iff, decide_eq_true_iff, decide_eq_true_iff]
            simp
          · have hh : rest.length = (ways m (at_ - half size) (size - half size)).length := by simp at h; exact h
            rw [hrl, foldW_snoc _ _ _ _ _ hh.symm, if_neg (by decide), ← i3 hh]
end Go.Proofs.YtdpjbeeokimnaaaA

/-
  Commands read from bytes: the program and the reference read alike, and read back what was written. No condition.
-/
namespace Go.Proofs.YtdpjbeeokimnaaaA
open Go
set_option linter.unusedVariables false
set_option linter.unusedSimpArgs false

theorem pCnt_bytes {l K r : List Int} (h : IsBytes l) (hp : pCnt l = some (K, r)) : IsBytes K ∧ IsBytes r ∧ l = cntB K ++ r ∧ K.length < 256 := by
  cases l with
  | nil => simp [pCnt] at hp
  | cons a l =>
    simp only [pCnt] at hp
    split at hp
    · rename_i hl
      have ha := h a List.mem_cons_self
      simp only [Option.some.injEq, Prod.mk.injEq] at hp
      obtain ⟨rfl, rfl⟩ := hp
      refine ⟨h.tail.take _, h.tail.drop _, ?_, by simp; omega⟩
      unfold cntB
      rw [List.length_take, List.cons_append, List.take_append_drop]
      congr 1
      omega
    · simp at hp
theorem pCnt_cntB {K r : List Int} (h : K.length < 256) : pCnt (cntB K ++ r) = some (K, r) := by
  unfold cntB
  rw [List.cons_append, pCnt, if_pos (by simp; omega)]
  have : ((K.length : Int) % 256).toNat = K.length := by omega
  rw [this, List.take_left, List.drop_left]
structure PC where
  k : Int
  s : Int
  q : Int
  K : List Int
  V : List Int
  r : List Int
def pCmd : List Int → Option PC
  | a :: b :: c :: d :: e :: l => match pCnt l with
    | some (K, l1) => match pCnt l1 with
      | some (V, l2) => some ⟨a, b * 256 + c, d * 256 + e, K, V, l2⟩
      | none => none
    | none => none
  | _ => none
theorem readCmd_i (l : List Int) (hb : IsBytes l) : ∃ g1 g2 g3 g4 g5, i_readCommand (strL l) = some (match pCmd l with | some x => (x.k, x.s, x.q, strL x.K, strL x.V, decide (x.r = []) && cmdOK x.k x.s x.q (strL x.K) (strL x.V)) | none => (g1, g2, g3, g4, g5, false)) := by
  unfold i_readCommand i_readCommand.F
  match l, hb with
  | [], hb => exact ⟨_, _, _, _, _, by simp only [rnum_no [] 1 (by simp), rnum_bad, rcnt_bad, bs, Bool.not_true, cf, pCmd]; rfl⟩
  | [a], hb => exact ⟨_, _, _, _, _, by simp only [rnum1 a _ hb, rnum_no [] 2 (by simp), rnum_bad, rcnt_bad, bs, Bool.not_true, cf, pCmd]; rfl⟩
  | [a, b], hb => exact ⟨_, _, _, _, _, by simp only [rnum1 a _ hb, rnum_no [b] 2 (by simp), rnum_bad, rcnt_bad, bs, Bool.not_true, cf, pCmd]; rfl⟩
  | [a, b, c], hb => exact ⟨_, _, _, _, _, by simp only [rnum1 a _ hb, rnum2 b c _ hb.tail, rnum_no [] 2 (by simp), rnum_bad, rcnt_bad, bs, Bool.not_true, cf, pCmd]; rfl⟩
  | [a, b, c, d], hb => exact ⟨_, _, _, _, _, by simp only [rnum1 a _ hb, rnum2 b c _ hb.tail, rnum_no [d] 2 (by simp), rnum_bad, rcnt_bad, bs, Bool.not_true, cf, pCmd]; rfl⟩
  | a :: b :: c :: d :: e :: l, hb =>
    have h5 : IsBytes l := hb.tail.tail.tail.tail.tail
    obtain ⟨r1, h1⟩ := rcnt_eq l h5
    simp only [rnum1 a _ hb, rnum2 b c _ hb.tail, rnum2 d e _ hb.tail.tail.tail, bs, h1, pCmd]
    cases h2 : pCnt l with
    | none => exact ⟨_, _, _, _, _, by simp only [rcnt_bad, bs, Bool.not_true, cf]; rfl⟩
    | some x =>
      obtain ⟨K, l1⟩ := x
      obtain ⟨hK, hl1, _, _⟩ := pCnt_bytes h5 h2
      obtain ⟨r2, h3⟩ := rcnt_eq l1 hl1
      simp only [h3]
      cases h4 : pCnt l1 with
      | none => exact ⟨_, _, _, _, _, by simp only [bs, Bool.not_true, cf]; rfl⟩
      | some y =>
        obtain ⟨V, l2⟩ := y
        obtain ⟨hV, hl2, _, _⟩ := pCnt_bytes hl1 h4
        refine ⟨0, 0, 0, ByteArray.empty, ByteArray.empty, ?_⟩
        simp only [bs, Bool.not_false, ct, ← strL_nil, sEq_strL hl2 IsBytes.nil, commandOK_i]
        cases decide (l2 = []) <;> rfl
theorem snum_at (l : List Int) (hb : IsBytes l) (hl : l.length ≤ 1000000) (m : Nat) (hm : m ≤ 7) (p : Nat) (h : p + m ≤ l.length) : s_l02Reader_number l p false m = some (beN 0 ((l.drop p).take m), l, ((p + m : Nat) : Int), false) := by
  rw [snum_eq l hb hl m hm p (by omega), if_pos h]
theorem snum_no (l : List Int) (hb : IsBytes l) (hl : l.length ≤ 1000000) (m : Nat) (hm : m ≤ 7) (p : Nat) (hp : p ≤ l.length) (h : l.length < p + m) : s_l02Reader_number l p false m = some (0, l, (l.length : Int), true) := by
  rw [snum_eq l hb hl m hm p hp, if_neg (by omega)]
theorem readCmd_s (l : List Int) (hb : IsBytes l) (hl : l.length ≤ 1000000) : ∃ g1 g2 g3 g4 g5, s_l02Read l = some (match pCmd l with | some x => (x.k, x.s, x.q, strL x.K, strL x.V, decide (x.r = []) && cmdOK x.k x.s x.q (strL x.K) (strL x.V)) | none => (g1, g2, g3, g4, g5, false)) := by
  unfold s_l02Read s_l02Read.F
  have b1 : ∀ p, s_l02Reader_number l p true 1 = some (0, l, p, true) := fun p => snum_bad l p 1 (by decide)
  have b2 : ∀ p, s_l02Reader_number l p true 2 = some (0, l, p, true) := fun p => snum_bad l p 2 (by decide)
  have n1 := fun h => snum_no l hb hl 1 (by omega) 0 (by omega) h
  have a1 := fun h => snum_at l hb hl 1 (by omega) 0 h
  have n2 := fun h0 h => snum_no l hb hl 2 (by omega) 1 h0 h
  have a2 := fun h => snum_at l hb hl 2 (by omega) 1 h
  have n3 := fun h0 h => snum_no l hb hl 2 (by omega) 3 h0 h
  have a3 := fun h => snum_at l hb hl 2 (by omega) 3 h
  match l, hb, b1, b2, n1, a1, n2, a2, n3, a3 with
  | [], hb, b1, b2, n1, a1, n2, a2, n3, a3 =>
    have := n1 (by simp)
    simp only [Int.natCast_zero, show ((1 : Nat) : Int) = 1 from rfl] at this
    exact ⟨_, _, _, _, _, by simp only [this, b1, b2, stext_bad, bs, Bool.not_true, cf, pCmd]; rfl⟩
  | [a], hb, b1, b2, n1, a1, n2, a2, n3, a3 =>
    have h1 := a1 (by simp)
    have h2 := n2 (by simp) (by simp)
    simp only [Int.natCast_zero, show ((1 : Nat) : Int) = 1 from rfl, show ((2 : Nat) : Int) = 2 from rfl, Nat.zero_add] at h1 h2
    exact ⟨_, _, _, _, _, by simp only [h1, h2, b1, b2, stext_bad, bs, Bool.not_true, cf, pCmd]; rfl⟩
  | [a, b], hb, b1, b2, n1, a1, n2, a2, n3, a3 =>
    have h1 := a1 (by simp)
    have h2 := n2 (by simp) (by simp)
    simp only [Int.natCast_zero, show ((1 : Nat) : Int) = 1 from rfl, show ((2 : Nat) : Int) = 2 from rfl, Nat.zero_add] at h1 h2
    exact ⟨_, _, _, _, _, by simp only [h1, h2, b1, b2, stext_bad, bs, Bool.not_true, cf, pCmd]; rfl⟩
  | [a, b, c], hb, b1, b2, n1, a1, n2, a2, n3, a3 =>
    have h1 := a1 (by simp)
    have h2 := a2 (by simp)
    have h3 := n3 (by simp) (by simp)
    simp only [Int.natCast_zero, show ((1 : Nat) : Int) = 1 from rfl, show ((2 : Nat) : Int) = 2 from rfl, show ((3 : Nat) : Int) = 3 from rfl, Nat.zero_add, show 1 + 2 = 3 from rfl] at h1 h2 h3
    exact ⟨_, _, _, _, _, by simp only [h1, h2, h3, b1, b2, stext_bad, bs, Bool.not_true, cf, pCmd]; rfl⟩
  | [a, b, c, d], hb, b1, b2, n1, a1, n2, a2, n3, a3 =>
    have h1 := a1 (by simp)
    have h2 := a2 (by simp)
    have h3 := n3 (by simp) (by simp)
    simp only [Int.natCast_zero, show ((1 : Nat) : Int) = 1 from rfl, show ((2 : Nat) : Int) = 2 from rfl, show ((3 : Nat) : Int) = 3 from rfl, Nat.zero_add, show 1 + 2 = 3 from rfl] at h1 h2 h3
    exact ⟨_, _, _, _, _, by simp only [h1, h2, h3, b1, b2, stext_bad, bs, Bool.not_true, cf, pCmd]; rfl⟩
  | a :: b :: c :: d :: e :: l, hb, b1, b2, n1, a1, n2, a2, n3, a3 =>
    have h1 := a1 (by simp)
    have h2 := a2 (by simp)
    have h3 := a3 (by simp)
    have e1 : beN 0 (((a :: b :: c :: d :: e :: l).drop 0).take 1) = a := by simp [beN]
    have e2 : beN 0 (((a :: b :: c :: d :: e :: l).drop 1).take 2) = b * 256 + c := by simp [beN]
    have e3 : beN 0 (((a :: b :: c :: d :: e :: l).drop 3).take 2) = d * 256 + e := by simp [beN]
    rw [e1] at h1
    rw [e2] at h2
    rw [e3] at h3
    simp only [Int.natCast_zero, show ((1 : Nat) : Int) = 1 from rfl, show ((2 : Nat) : Int) = 2 from rfl, show ((3 : Nat) : Int) = 3 from rfl, Nat.zero_add, show 1 + 2 = 3 from rfl, show 3 + 2 = 5 from rfl] at h1 h2 h3
    generalize hL : a :: b :: c :: d :: e :: l = L at *
    have hd : L.drop 5 = l := by rw [← hL]; rfl
    have h5 : IsBytes l := by rw [← hd]; exact hb.drop 5
    have hlen : L.length = l.length + 5 := by rw [← hL]; rfl
    obtain ⟨r, n, h4, h4', h6⟩ := scnt_eq L hb hl 5 (by omega)
    obtain ⟨rb, ra, rd⟩ := r
    dsimp only at h4' h6
    subst h4'
    rw [hd] at h6
    simp only [h1, h2, h3, h4, bs]
    have hp : pCmd rb = match pCnt l with
        | some (K, l1) => (match pCnt l1 with
          | some (V, l2) => some ⟨a, b * 256 + c, d * 256 + e, K, V, l2⟩
          | none => none)
        | none => none := by rw [← hL]; rfl
    rw [hp]
    cases h7 : pCnt l with
    | none =>
      rw [h7] at h6
      obtain ⟨q, h8⟩ := h6
      exact ⟨_, _, _, _, _, by simp only [h8, b1, b2, stext_bad, bs, Bool.not_true, cf]; rfl⟩
    | some x =>
      obtain ⟨K, l1⟩ := x
      obtain ⟨hK, hl1, _, _⟩ := pCnt_bytes h5 h7
      rw [h7] at h6
      dsimp only at h6
      obtain ⟨rfl, h8, h9, h10⟩ := h6
      obtain ⟨r, n', h11, h11', h12⟩ := scnt_eq rb hb hl (rb.length - l1.length) (by omega)
      obtain ⟨rb', ra', rd'⟩ := r
      dsimp only at h11' h12
      subst h11'
      rw [← h9] at h12
      simp only [h8, h11, bs]
      cases h13 : pCnt l1 with
      | none =>
        rw [h13] at h12
        obtain ⟨q, h14⟩ := h12
        exact ⟨_, _, _, _, _, by simp only [h14, bs, Bool.not_true, cf]; rfl⟩
      | some y =>
        obtain ⟨V, l2⟩ := y
        rw [h13] at h12
        dsimp only at h12
        obtain ⟨rfl, h14, h15, h16⟩ := h12
        refine ⟨0, 0, 0, ByteArray.empty, ByteArray.empty, ?_⟩
        simp only [h14, bs, Bool.not_false, ct, commandOK_s]
        have : (((rb'.length - l2.length : Nat) : Int) == (rb'.length : Int)) = decide (l2 = []) := by
          rw [Bool.eq_iff_iff, beq_iff_eq, decide_eq_true_iff, ← List.length_eq_zero_iff]
          omega
        rw [this]
        cases decide (l2 = []) <;> rfl
theorem pCmd_cmdB {k s q : Int} {K V : List Int} (hk : 0 ≤ k ∧ k < 256) (hs : inShort s = true) (hq : inShort q = true) (hK : K.length < 256) (hV : V.length < 256) : pCmd (cmdB k s q K V) = some ⟨k, s, q, K, V, []⟩ := by
  simp only [inShort, Bool.and_eq_true, decide_eq_true_iff] at hs hq
  have e : cmdB k s q K V = k % 256 :: (s / 256 % 256) :: (s % 256) :: (q / 256 % 256) :: (q % 256) :: (cntB K ++ (cntB V ++ [])) := by
    unfold cmdB
    rw [beL1, beL2, beL2]
    simp
  rw [e, pCmd, pCnt_cntB hK]
  dsimp only
  rw [pCnt_cntB hV]
  simp only [Option.some.injEq, PC.mk.injEq, and_true]
  omega
theorem cmd_of_pCmd {l : List Int} (hb : IsBytes l) {x : PC} (h : pCmd l = some x) (hr : x.r = []) : l = cmdB x.k x.s x.q x.K x.V ∧ IsBytes x.K ∧ IsBytes x.V ∧ x.K.length < 256 ∧ x.V.length < 256 ∧ (0 ≤ x.k ∧ x.k < 256) ∧ inShort x.s = true ∧ inShort x.q = true := by
  match l, hb, h with
  | a :: b :: c :: d :: e :: l, hb, h =>
    have h5 : IsBytes l := hb.tail.tail.tail.tail.tail
    simp only [pCmd] at h
    cases h2 : pCnt l with
    | none => rw [h2] at h; simp at h
    | some y =>
      obtain ⟨K, l1⟩ := y
      obtain ⟨hK, hl1, e1, e2⟩ := pCnt_bytes h5 h2
      rw [h2] at h
      dsimp only at h
      cases h4 : pCnt l1 with
      | none => rw [h4] at h; simp at h
      | some z =>
        obtain ⟨V, l2⟩ := z
        obtain ⟨hV, hl2, e3, e4⟩ := pCnt_bytes hl1 h4
        rw [h4] at h
        simp only [Option.some.injEq] at h
        subst h
        dsimp only at hr ⊢
        subst hr
        have ha := hb a (by simp)
        have hb' := hb b (by simp)
        have hc := hb c (by simp)
        have hd := hb d (by simp)
        have he := hb e (by simp)
        refine ⟨?_, hK, hV, e2, e4, ha, ?_, ?_⟩
        · rw [e1, e3]
          unfold cmdB
          rw [beL1, beL2, beL2, show a % 256 = a by omega, show (b * 256 + c) / 256 % 256 = b by omega, show (b * 256 + c) % 256 = c by omega, show (d * 256 + e) / 256 % 256 = d by omega, show (d * 256 + e) % 256 = e by omega]
          simp
        · simp [inShort]; omega
        · simp [inShort]; omega
/-- ReadCommand: what the program and the reference return. -/
theorem ReadCommand_eq (l : List Int) (hb : IsBytes l) : i_ReadCommand l = s_ReadCommand l := by
  unfold i_ReadCommand i_ReadCommand.F s_ReadCommand s_ReadCommand.F
  by_cases h : (l.length : Int) > 65536
  · rw [decide_t h, cond_true, cond_true]
  · rw [decide_f h, cond_false, cond_false]
    obtain ⟨g1, g2, g3, g4, g5, h1⟩ := readCmd_i l hb
    obtain ⟨k1, k2, k3, k4, k5, h2⟩ := readCmd_s l hb (by omega)
    rw [h1, h2, Option.bind_some, Option.bind_some]
    cases pCmd l with
    | none => rfl
    | some x => rfl
end Go.Proofs.YtdpjbeeokimnaaaA

/-
  Draws out of a code: each draw comes to an end, with a number below what is asked. No condition.
-/
namespace Go.Proofs.YtdpjbeeokimnaaaA
open Go
set_option linter.unusedVariables false
set_option linter.unusedSimpArgs false

structure SrcOK (c : List Int) (a s : Int) (N : Int) : Prop where
  hb : IsBytes c
  hl : c.length ≤ 1048576
  a0 : 0 ≤ a
  aN : a ≤ N
  NN : N ≤ 4611686018427387904
  s0 : 0 ≤ s
  s1 : s < 2147483648
theorem SrcOK.mono {c : List Int} {a s N M : Int} (h : SrcOK c a s N) (h1 : N ≤ M) (h2 : M ≤ 4611686018427387904) : SrcOK c a s M := ⟨h.hb, h.hl, h.a0, by have := h.aN; omega, h2, h.s0, h.s1⟩
theorem byte_eq {c : List Int} {a s N : Int} (h : SrcOK c a s N) (hN : N + 1 ≤ 4611686018427387904) : ∃ v a' s', s_l00Src_byte c a s = some (v, c, a', s') ∧ (0 ≤ v ∧ v < 256) ∧ SrcOK c a' s' (N + 1) := by
  obtain ⟨hb, hl, a0, aN, _, s0, s1⟩ := h
  unfold s_l00Src_byte s_l00Src_byte.F
  rw [wr (x := a + 1) (by omega) (by omega), wr (x := a + 1 - 1) (by omega) (by omega)]
  by_cases h1 : a + 1 ≤ c.length
  · have hlt : a.toNat < c.length := by omega
    have hg := hb.get hlt
    have e : rdE (.int .u8) c (a + 1 - 1).toNat = c[a.toNat] := by
      rw [show (a + 1 - 1) = a by omega]; exact rdE_at (k := .int .u8) hlt
    rw [decide_t h1, cond_true, grd_of (gIx_t (by omega) (by omega)), grd_of (gNz_t (by decide)), grd_of (gIx_t (by omega) (by omega)), e]
    rw [wr (x := c[a.toNat]) (by omega) (by omega), wr (x := s * 31) (by omega) (by omega), wr (x := s * 31 + c[a.toNat]) (by omega) (by omega), wr (x := s * 31 + c[a.toNat] + 7) (by omega) (by omega), tmod_pos (by omega)]
    exact ⟨_, _, _, rfl, hg, hb, hl, by omega, by omega, by omega, by omega, by omega⟩
  · rw [decide_f h1, cond_false]
    by_cases h2 : a + 1 > 3000
    · rw [decide_t h2, cond_true]
      exact ⟨_, _, _, rfl, by decide, hb, hl, by omega, by omega, by omega, s0, s1⟩
    · rw [decide_f h2, cond_false, grd_of (gNz_t (by decide)), grd_of (gNz_t (by decide)), grd_of (gNz_t (by decide))]
      rw [wr (x := s * 1103515245) (by omega) (by omega), wr (x := s * 1103515245 + 12345) (by omega) (by omega), tmod_pos (x := s * 1103515245 + 12345) (by omega), tdiv_pos (by omega), wr (x := (s * 1103515245 + 12345) % 2147483648 / 65536) (by omega) (by omega), tmod_pos (by omega)]
      exact ⟨_, _, _, rfl, by omega, hb, hl, by omega, by omega, by omega, by omega, by omega⟩
theorem next_eq {c : List Int} {a s N : Int} (h : SrcOK c a s N) (hN : N + 3 ≤ 4611686018427387904) (n : Int) (h1 : 1 < n) (h2 : n ≤ 16777216) : ∃ v a' s', s_l00Src_next c a s n = some (v, c, a', s') ∧ (0 ≤ v ∧ v < n) ∧ SrcOK c a' s' (N + 3) := by
  unfold s_l00Src_next s_l00Src_next.F
  rw [decide_f (by omega : ¬ n ≤ 1), cond_false]
  obtain ⟨v, a1, s1, e1, hv, h3⟩ := byte_eq h (by omega)
  by_cases h4 : n ≤ 256
  · rw [decide_t h4, cond_true, e1, Option.bind_some, grd_of (gNz_t (by omega)), tmod_pos hv.1]
    exact ⟨_, _, _, rfl, ⟨Int.emod_nonneg _ (by omega), Int.emod_lt_of_pos _ (by omega)⟩, h3.mono (by omega) (by omega)⟩
  · obtain ⟨v2, a2, s2, e2, hv2, h5⟩ := byte_eq h3 (by omega)
    obtain ⟨v3, a3, s3, e3, hv3, h6⟩ := byte_eq h5 (by omega)
    rw [decide_f h4, cond_false, e1, Option.bind_some]
    dsimp only
    rw [e2, Option.bind_some]
    dsimp only
    rw [e3, Option.bind_some]
    dsimp only
    rw [grd_of (gNz_t (by omega)), wr (x := v * 65536) (by omega) (by omega), wr (x := v2 * 256) (by omega) (by omega), wr (x := v * 65536 + v2 * 256) (by omega) (by omega), wr (x := v * 65536 + v2 * 256 + v3) (by omega) (by omega), tmod_pos (by omega)]
    exact ⟨_, _, _, rfl, ⟨Int.emod_nonneg _ (by omega), Int.emod_lt_of_pos _ (by omega)⟩, h6.mono (by omega) (by omega)⟩
theorem next_one {c : List Int} {a s : Int} (n : Int) (h1 : n ≤ 1) : s_l00Src_next c a s n = some (0, c, a, s) := by
  unfold s_l00Src_next s_l00Src_next.F
  rw [decide_t h1, cond_true]
theorem source_eq (c : List Int) (hb : IsBytes c) (hl : c.length ≤ 1048576) : ∃ s, s_l00Source c = some (c, 0, s) ∧ SrcOK c 0 s 0 := by
  unfold s_l00Source s_l00Source.F
  rw [grd_of (gNz_t (by decide)), tmod_pos (by omega)]
  exact ⟨_, rfl, hb, hl, by omega, by omega, by decide, by omega, by omega⟩
theorem pick_eq {c : List Int} {a s N : Int} (h : SrcOK c a s N) (hN : N + 3 ≤ 4611686018427387904) (l : List ByteArray) (h0 : 1 < l.length) (h1 : l.length ≤ 1000) : ∃ v a' s', s_l00Src_pick c a s l = some (v, c, a', s') ∧ v ∈ l ∧ SrcOK c a' s' (N + 3) := by
  unfold s_l00Src_pick s_l00Src_pick.F
  rw [show ((l.length : Int) == 0) = false from beq_eq_false_iff_ne.2 (by omega), cond_false]
  obtain ⟨v, a', s', e, hv, h2⟩ := next_eq h hN l.length (by omega) (by omega)
  rw [e, Option.bind_some]
  dsimp only
  rw [grd_of (gIx_t hv.1 hv.2), rdE_at (k := .str) (by omega)]
  exact ⟨_, _, _, rfl, List.getElem_mem _, h2⟩
theorem chance_eq {c : List Int} {a s N : Int} (h : SrcOK c a s N) (hN : N + 3 ≤ 4611686018427387904) (n : Int) (h1 : 1 < n) (h2 : n ≤ 16777216) : ∃ v a' s', s_l00Src_chance c a s n = some (v, c, a', s') ∧ SrcOK c a' s' (N + 3) := by
  unfold s_l00Src_chance s_l00Src_chance.F
  obtain ⟨v, a', s', e, hv, h3⟩ := next_eq h hN n h1 h2
  rw [e, Option.bind_some]
  exact ⟨_, _, _, rfl, h3⟩
theorem isKey_of {v : ByteArray} (h : v ∈ [(⟨#[97]⟩ : ByteArray), (⟨#[98]⟩ : ByteArray), (⟨#[99]⟩ : ByteArray), (⟨#[97, 108, 112, 104, 97]⟩ : ByteArray), (⟨#[98, 101, 116, 97]⟩ : ByteArray)]) : isKeyB v = true := by
  simp only [List.mem_cons, List.not_mem_nil, or_false] at h
  rcases h with rfl | rfl | rfl | rfl | rfl <;> rfl
theorem val_of {v : ByteArray} (h : v ∈ [ByteArray.empty, (⟨#[49]⟩ : ByteArray), (⟨#[50]⟩ : ByteArray), (⟨#[120]⟩ : ByteArray), (⟨#[108, 111, 110, 103, 101, 114, 32, 118, 97, 108, 117, 101]⟩ : ByteArray)]) : v.size ≤ 60 := by
  simp only [List.mem_cons, List.not_mem_nil, or_false] at h
  rcases h with rfl | rfl | rfl | rfl | rfl <;> decide
/-- A drawn command is a right one. -/
theorem command_eq {c : List Int} {a s N : Int} (h : SrcOK c a s N) (hN : N + 24 ≤ 4611686018427387904) : ∃ k se q key val a' s', s_l00Src_command c a s = some (k, se, q, key, val, c, a', s') ∧ cmdOK k se q key val = true ∧ (0 ≤ k ∧ k < 256) ∧ SrcOK c a' s' (N + 24) := by
  unfold s_l00Src_command s_l00Src_command.F
  obtain ⟨v1, a1, s1, e1, hv1, h1⟩ := next_eq h (by omega) 5 (by decide) (by decide)
  obtain ⟨v2, a2, s2, e2, hv2, h2⟩ := next_eq h1 (by omega) 3 (by decide) (by decide)
  obtain ⟨v3, a3, s3, e3, hv3, h3⟩ := next_eq h2 (by omega) 5 (by decide) (by decide)
  have hk : ∃ key a4 s4, s_l00Src_key c a3 s3 = some (key, c, a4, s4) ∧ isKeyB key = true ∧ SrcOK c a4 s4 (N + 3 + 3 + 3 + 3) := by
    unfold s_l00Src_key s_l00Src_key.F
    obtain ⟨v, a', s', e, hv, h'⟩ := pick_eq h3 (by omega) [(⟨#[97]⟩ : ByteArray), (⟨#[98]⟩ : ByteArray), (⟨#[99]⟩ : ByteArray), (⟨#[97, 108, 112, 104, 97]⟩ : ByteArray), (⟨#[98, 101, 116, 97]⟩ : ByteArray)] (by decide) (by decide)
    rw [e, Option.bind_some]
    exact ⟨_, _, _, rfl, isKey_of hv, h'⟩
  obtain ⟨key, a4, s4, e4, hkey, h4⟩ := hk
  have hd : ∃ val a5 s5, s_l00Src_datum c a4 s4 = some (val, c, a5, s5) ∧ val.size ≤ 60 ∧ SrcOK c a5 s5 (N + 3 + 3 + 3 + 3 + 3) := by
    unfold s_l00Src_datum s_l00Src_datum.F
    obtain ⟨v, a', s', e, hv, h'⟩ := pick_eq h4 (by omega) [ByteArray.empty, (⟨#[49]⟩ : ByteArray), (⟨#[50]⟩ : ByteArray), (⟨#[120]⟩ : ByteArray), (⟨#[108, 111, 110, 103, 101, 114, 32, 118, 97, 108, 117, 101]⟩ : ByteArray)] (by decide) (by decide)
    rw [e, Option.bind_some]
    exact ⟨_, _, _, rfl, val_of hv, h'⟩
  obtain ⟨val, a5, s5, e5, hval, h5⟩ := hd
  obtain ⟨v6, a6, s6, e6, h6⟩ := chance_eq h5 (by omega) 4 (by decide) (by decide)
  obtain ⟨v7, a7, s7, e7, hv7, h7⟩ := next_eq h6 (by omega) 2 (by decide) (by decide)
  obtain ⟨v8, a8, s8, e8, hv8, h8⟩ := next_eq h7 (by omega) 3 (by decide) (by decide)
  have hkind : ∃ k0 : Int, rdE (.int .i64) [(1 : Int), (1 : Int), (2 : Int), (2 : Int), (3 : Int)] v1.toNat = k0 ∧ (k0 = 1 ∨ k0 = 2 ∨ k0 = 3) := by
    refine ⟨_, rfl, ?_⟩
    obtain ⟨w, rfl⟩ : ∃ w : Nat, v1 = w := ⟨v1.toNat, by omega⟩
    have : w < 5 := by omega
    match w, this with
    | 0, _ => exact .inl rfl
    | 1, _ => exact .inl rfl
    | 2, _ => exact .inr (.inl rfl)
    | 3, _ => exact .inr (.inl rfl)
    | 4, _ => exact .inr (.inr rfl)
  obtain ⟨k0, ek, hk0⟩ := hkind
  rw [e1, Option.bind_some]
  dsimp only
  rw [grd_of (gIx_t hv1.1 (by simpa using hv1.2)), e2, Option.bind_some]
  dsimp only
  rw [e3, Option.bind_some]
  dsimp only
  rw [e4, Option.bind_some]
  dsimp only
  rw [e5, Option.bind_some]
  dsimp only
  rw [ek, wr (x := 1 + v2) (by omega) (by omega), wr (x := 1 + v3) (by omega) (by omega)]
  have ok : ∀ (v : ByteArray), v.size ≤ 60 → (k0 = 3 → v = ByteArray.empty) → cmdOK k0 (1 + v2) (1 + v3) key v = true := by
    intro v hv h3
    have i1 : inShort (1 + v2) = true := by simp [inShort]; omega
    have i2 : inShort (1 + v3) = true := by simp [inShort]; omega
    unfold cmdOK
    rw [i1, i2, decide_t hv, hkey]
    rcases hk0 with rfl | rfl | rfl
    · simp
    · simp
    · rw [h3 rfl]; simp [sEq_self]
  have ko : ∀ w : Int, 0 ≤ w → w < 2 → cmdOK (4 + w) (1 + v8) 0 ByteArray.empty ByteArray.empty = true := by
    intro w hw0 hw1
    have i1 : inShort (1 + v8) = true := by simp [inShort]; omega
    unfold cmdOK
    rw [i1]
    rcases (show w = 0 ∨ w = 1 by omega) with rfl | rfl <;> simp [sEq_self, inShort]
  unfold s_l00Src_command.j1
  have tail : ∀ (v : ByteArray), v.size ≤ 60 → (k0 = 3 → v = ByteArray.empty) → ∃ k se q key' val' a' s',
      ((s_l00Src_chance c a5 s5 (4 : Int)).bind fun r5 =>
        cond r5.1 ((s_l00Src_next r5.2.1 r5.2.2.1 r5.2.2.2 (2 : Int)).bind fun r6 => (s_l00Src_next r6.2.1 r6.2.2.1 r6.2.2.2 (3 : Int)).bind fun r7 =>
          some (IntKind.wrap .i64 ((4 : Int) + r6.1), IntKind.wrap .i64 ((1 : Int) + r7.1), (0 : Int), ByteArray.empty, ByteArray.empty, r7.2.1, r7.2.2.1, r7.2.2.2))
          (some (k0, 1 + v2, 1 + v3, key, v, r5.2.1, r5.2.2.1, r5.2.2.2))) = some (k, se, q, key', val', c, a', s') ∧ cmdOK k se q key' val' = true ∧ (0 ≤ k ∧ k < 256) ∧ SrcOK c a' s' (N + 24) := by
    intro v hv h3
    rw [e6, Option.bind_some]
    dsimp only
    cases v6 with
    | false =>
      rw [cond_false]
      exact ⟨_, _, _, _, _, _, _, rfl, ok v hv h3, by omega, h6.mono (by omega) (by omega)⟩
    | true =>
      rw [cond_true, e7, Option.bind_some]
      dsimp only
      rw [e8, Option.bind_some]
      dsimp only
      rw [wr (x := 4 + v7) (by omega) (by omega), wr (x := 1 + v8) (by omega) (by omega)]
      exact ⟨_, _, _, _, _, _, _, rfl, ko v7 hv7.1 hv7.2, by omega, h8.mono (by omega) (by omega)⟩
  by_cases h3 : k0 = 3
  · rw [show (k0 == 3) = true from beq_iff_eq.2 h3, cond_true]
    exact tail ByteArray.empty (by decide) (fun _ => rfl)
  · rw [show (k0 == 3) = false from beq_eq_false_iff_ne.2 h3, cond_false]
    exact tail val hval (fun h => absurd h h3)
end Go.Proofs.YtdpjbeeokimnaaaA

/-
  Entries of a log in bytes: the program's and the reference's; a drawn entry is a right one. No condition.
-/
namespace Go.Proofs.YtdpjbeeokimnaaaA
open Go
set_option linter.unusedVariables false
set_option linter.unusedSimpArgs false

def entOK (t k : Int) (D : List Int) : Bool :=
  (decide (1 ≤ t) && decide (t ≤ 1000000)) && (if k = 0 then decide (D = []) else if k = 1 then decide (1 ≤ D.length) && decide (D.length ≤ 100) else if k = 2 then memOK D else false)
theorem entryOK_i (t k : Int) (D : List Int) (hD : IsBytes D) (hl : D.length ≤ 1000000000000) : i_entryOK t k (strL D) = some (entOK t k D) := by
  unfold i_entryOK i_entryOK.F entOK
  rw [within_eq, bs]
  cases (decide (1 ≤ t) && decide (t ≤ 1000000)) with
  | false => rfl
  | true =>
    rw [Bool.not_true, cf, Bool.true_and]
    have b : ∀ z : Int, k ≠ z → (k == z) = false := fun z h => beq_eq_false_iff_ne.2 h
    by_cases h0 : k = 0
    · subst h0
      rw [if_pos rfl, show ((0 : Int) == 0) = true from rfl, ct, ← strL_nil, sEq_strL hD IsBytes.nil]
    by_cases h1 : k = 1
    · subst h1
      rw [if_neg h0, if_pos rfl, b 0 h0, cf, show ((1 : Int) == 1) = true from rfl, ct, within_eq, bs, strL_size]
      congr 2 <;> (rw [Bool.eq_iff_iff, decide_eq_true_iff, decide_eq_true_iff]; omega)
    by_cases h2 : k = 2
    · subst h2
      rw [if_neg h0, if_neg h1, if_pos rfl, b 0 h0, cf, b 1 h1, cf, show ((2 : Int) == 2) = true from rfl, ct, readMembers_eq D hD hl, bs]
    rw [if_neg h0, if_neg h1, if_neg h2, b 0 h0, cf, b 1 h1, cf, b 2 h2, cf]
theorem entryOK_s (t k : Int) (D : List Int) (hD : IsBytes D) (hl : D.length ≤ 1000000000000) : s_l02Entry t k (strL D) = some (entOK t k D) := by
  unfold s_l02Entry s_l02Entry.F entOK
  rw [l01In_eq, bs]
  cases (decide (1 ≤ t) && decide (t ≤ 1000000)) with
  | false => rfl
  | true =>
    rw [Bool.not_true, cf, Bool.true_and]
    have b : ∀ z : Int, k ≠ z → (k == z) = false := fun z h => beq_eq_false_iff_ne.2 h
    by_cases h0 : k = 0
    · subst h0
      rw [if_pos rfl, show ((0 : Int) == 0) = true from rfl, ct, ← strL_nil, sEq_strL hD IsBytes.nil]
    by_cases h1 : k = 1
    · subst h1
      rw [if_neg h0, if_pos rfl, b 0 h0, cf, show ((1 : Int) == 1) = true from rfl, ct, strL_size]
      by_cases h : 1 ≤ D.length
      · rw [decide_t (by omega : (D.length : Int) ≥ 1), ct, decide_t h, Bool.true_and]
        congr 1
        rw [Bool.eq_iff_iff, decide_eq_true_iff, decide_eq_true_iff]; omega
      · rw [decide_f (by omega : ¬ (D.length : Int) ≥ 1), cf, decide_f h, Bool.false_and]
    by_cases h2 : k = 2
    · subst h2
      obtain ⟨m, hm⟩ := members_agree D hD hl
      rw [if_neg h0, if_neg h1, if_pos rfl, b 0 h0, cf, b 1 h1, cf, show ((2 : Int) == 2) = true from rfl, ct, hm, bs]
    rw [if_neg h0, if_neg h1, if_neg h2, b 0 h0, cf, b 1 h1, cf, b 2 h2, cf]
theorem memOK_short {D : List Int} (h : memOK D = true) : D.length ≤ 7 := by
  unfold memOK at h
  simp only [Bool.and_eq_true, List.all_eq_true] at h
  obtain ⟨⟨_, h1⟩, h2⟩ := h
  have key : ∀ (l : List Int) (a : Int), (∀ x ∈ l, inSeven x = true) → rising l = true → (∀ x ∈ l.head?, a ≤ x) → a ≤ 7 → (l.length : Int) ≤ 7 - a := by
    intro l
    induction l with
    | nil => intro a _ _ _ ha; simp; omega
    | cons x l ih =>
      intro a h1 h2 h3 ha
      have hx := h1 x List.mem_cons_self
      simp only [inSeven, Bool.and_eq_true, decide_eq_true_iff] at hx
      have h4 := h3 x (by simp)
      simp only [rising, Bool.and_eq_true] at h2
      have := ih (x + 1) (fun y hy => h1 y (List.mem_cons_of_mem _ hy)) h2.2 (fun y hy => by
        cases l with
        | nil => simp at hy
        | cons z l =>
          simp at hy; subst hy
          have := h2.1
          simp at this
          omega) (by omega)
      simp
      omega
  have := key D 0 h1 h2 (fun x hx => by
    cases D with
    | nil => simp at hx
    | cons y D =>
      simp at hx; subst hx
      have := h1 y List.mem_cons_self
      simp only [inSeven, Bool.and_eq_true, decide_eq_true_iff] at this
      exact this.1) (by omega)
  omega
theorem entOK_short {t k : Int} {D : List Int} (h : entOK t k D = true) : D.length ≤ 100 ∧ (1 ≤ t ∧ t ≤ 1000000) ∧ 0 ≤ k ∧ k ≤ 2 := by
  unfold entOK at h
  simp only [Bool.and_eq_true, decide_eq_true_iff] at h
  obtain ⟨⟨h1, h2⟩, h3⟩ := h
  split at h3
  · rename_i h0
    subst h0
    have : D = [] := by simpa using h3
    subst this
    exact ⟨by simp, ⟨h1, h2⟩, by omega, by omega⟩
  · split at h3
    · rename_i h0
      subst h0
      simp only [Bool.and_eq_true, decide_eq_true_iff] at h3
      exact ⟨h3.2, ⟨h1, h2⟩, by omega, by omega⟩
    · split at h3
      · rename_i h0
        subst h0
        have := memOK_short h3
        exact ⟨by omega, ⟨h1, h2⟩, by omega, by omega⟩
      · simp at h3
def entB (t k : Int) (D : List Int) : List Int := beL t 4 ++ beL k 1 ++ cntB D
theorem entB_bytes {t k : Int} {D : List Int} (hD : IsBytes D) : IsBytes (entB t k D) := ((beL_bytes _ _).append (beL_bytes _ _)).append (cntB_bytes hD)
theorem entB_length (t k : Int) (D : List Int) : (entB t k D).length = 6 + D.length := by
  simp [entB, cntB, beL_length]
  omega
theorem entBytes_i (t k : Int) (D : List Int) (hl : D.length ≤ 1000000) : i_Entry_bytes t k (strL D) = some (strL (entB t k D)) := by
  unfold i_Entry_bytes i_Entry_bytes.F
  have e : ∀ l m : List Int, l.length + m.length ≤ 100000000 → gCat (strL l) (strL m) = true := fun l m h => by
    refine gCat_t ?_
    rw [strL_size, strL_size]
    omega
  simp only [number1, number4, counted_eq D (by omega), bs, strL_append]
  rw [grd_of (e _ _ (by simp [beL_length])), grd_of (e _ _ (by simp [beL_length, cntB]; omega))]
  simp only [entB]
theorem entBytes_s (t k : Int) (D : List Int) (hD : IsBytes D) (hl : D.length ≤ 1000000) : s_l02EntryBytes t k (strL D) = some (entB t k D) := by
  unfold s_l02EntryBytes s_l02EntryBytes.F
  simp only [four_eq, bs, bytesL_strL hD, strL_size, wr8m]
  rw [grd_of (gRm_t (by simp [beL_length])), grd_of (gRm_t (by simp [beL_length]; omega))]
  simp [entB, cntB, beL1]
structure PE where
  t : Int
  k : Int
  D : List Int
  r : List Int
def pEnt : List Int → Option PE
  | a :: b :: c :: d :: e :: l => match pCnt l with
    | some (D, l1) => some ⟨((a * 256 + b) * 256 + c) * 256 + d, e, D, l1⟩
    | none => none
  | _ => none
theorem readEnt_i (l : List Int) (hb : IsBytes l) (hl : l.length ≤ 1000000) : ∃ g1 g2 g3, i_readEntry (strL l) = some (match pEnt l with | some x => (x.t, x.k, strL x.D, decide (x.r = []) && entOK x.t x.k x.D) | none => (g1, g2, g3, false)) := by
  unfold i_readEntry i_readEntry.F
  match l, hb, hl with
  | [], hb, hl => exact ⟨_, _, _, by simp only [rnum_no [] 4 (by simp), rnum_bad, rcnt_bad, bs, Bool.not_true, cf, pEnt]; rfl⟩
  | [a], hb, hl => exact ⟨_, _, _, by simp only [rnum_no [a] 4 (by simp), rnum_bad, rcnt_bad, bs, Bool.not_true, cf, pEnt]; rfl⟩
  | [a, b], hb, hl => exact ⟨_, _, _, by simp only [rnum_no [a, b] 4 (by simp), rnum_bad, rcnt_bad, bs, Bool.not_true, cf, pEnt]; rfl⟩
  | [a, b, c], hb, hl => exact ⟨_, _, _, by simp only [rnum_no [a, b, c] 4 (by simp), rnum_bad, rcnt_bad, bs, Bool.not_true, cf, pEnt]; rfl⟩
  | [a, b, c, d], hb, hl => exact ⟨_, _, _, by simp only [rnum4 a b c d _ hb, rnum_no [] 1 (by simp), rnum_bad, rcnt_bad, bs, Bool.not_true, cf, pEnt]; rfl⟩
  | a :: b :: c :: d :: e :: l, hb, hl =>
    have h4 := hb.tail.tail.tail.tail
    have h5 : IsBytes l := h4.tail
    obtain ⟨r1, h1⟩ := rcnt_eq l h5
    simp only [rnum4 a b c d _ hb, rnum1 e _ h4, bs, h1, pEnt]
    cases h2 : pCnt l with
    | none => exact ⟨_, _, _, by simp only [bs, Bool.not_true, cf]; rfl⟩
    | some x =>
      obtain ⟨D, l1⟩ := x
      obtain ⟨hD, hl1, _, hDl⟩ := pCnt_bytes h5 h2
      refine ⟨0, 0, ByteArray.empty, ?_⟩
      simp only [bs, Bool.not_false, ct, ← strL_nil, sEq_strL hl1 IsBytes.nil, entryOK_i _ _ D hD (by omega)]
      cases decide (l1 = []) <;> rfl
theorem pEnt_entB {t k : Int} {D : List Int} (ht : 0 ≤ t ∧ t < 4294967296) (hk : 0 ≤ k ∧ k < 256) (hD : D.length < 256) : pEnt (entB t k D) = some ⟨t, k, D, []⟩ := by
  have e : entB t k D = (t / 16777216 % 256) :: (t / 65536 % 256) :: (t / 256 % 256) :: (t % 256) :: (k % 256) :: (cntB D ++ []) := by
    unfold entB
    rw [beL1, beL4]
    simp
  rw [e, pEnt, pCnt_cntB hD]
  simp only [Option.some.injEq, PE.mk.injEq, and_true]
  omega
theorem ReadEntry_back {t k : Int} {D : List Int} (hD : IsBytes D) (h : entOK t k D = true) : i_ReadEntry (entB t k D) = some (t, k, strL D, 0) := by
  obtain ⟨h1, h2, h3⟩ := entOK_short h
  have hl : (entB t k D).length ≤ 106 := by rw [entB_length]; omega
  unfold i_ReadEntry i_ReadEntry.F
  rw [decide_f (by omega), cf]
  obtain ⟨g1, g2, g3, h4⟩ := readEnt_i _ (entB_bytes (t := t) (k := k) hD) (by omega)
  rw [h4, bs, pEnt_entB (by omega) (by omega) (by omega)]
  simp only [h, decide_t, Bool.and_self, Bool.not_true, cf]
theorem cmdOK_short {k s q : Int} {K V : List Int} (h : cmdOK k s q (strL K) (strL V) = true) : K.length ≤ 24 ∧ V.length ≤ 60 ∧ inShort s = true ∧ inShort q = true ∧ 1 ≤ k ∧ k ≤ 5 := by
  unfold cmdOK at h
  simp only [Bool.and_eq_true] at h
  obtain ⟨h1, h2, h3, h4⟩ := h
  have h3 := of_decide_eq_true h3
  rw [strL_size] at h3
  refine ⟨?_, h3, h1, h2, ?_⟩
  · split at h4
    · simp only [isKeyB, Bool.and_eq_true, decide_eq_true_iff, strL_size] at h4; omega
    · split at h4
      · simp only [isKeyB, Bool.and_eq_true, decide_eq_true_iff, strL_size] at h4; omega
      · split at h4
        · simp only [Bool.and_eq_true] at h4
          have := congrArg ByteArray.size (sEq_iff.1 h4.1)
          rw [strL_size] at this
          rw [this]; decide
        · simp at h4
  · split at h4
    · omega
    · split at h4
      · omega
      · split at h4
        · omega
        · simp at h4
theorem entry_eq {c : List Int} {a s N : Int} (h : SrcOK c a s N) (hN : N + 33 ≤ 4611686018427387904) : ∃ t k D a' s', s_l00Src_entry c a s = some (t, k, strL D, c, a', s') ∧ IsBytes D ∧ entOK t k D = true ∧ t ≤ 4 ∧ SrcOK c a' s' (N + 33) := by
  unfold s_l00Src_entry s_l00Src_entry.F
  obtain ⟨v1, a1, s1, e1, hv1, h1⟩ := next_eq h (by omega) 4 (by decide) (by decide)
  obtain ⟨ck, cs, cq, key, val, a2, s2, e2, hok, hck, h2⟩ := command_eq h1 (by omega)
  obtain ⟨K, hK, rfl⟩ := exStr key
  obtain ⟨Vl, hV, rfl⟩ := exStr val
  obtain ⟨hKl, hVl, hs, hq, hk1, hk2⟩ := cmdOK_short hok
  obtain ⟨v3, a3, s3, e3, hv3, h3⟩ := next_eq h2 (by omega) 6 (by decide) (by decide)
  rw [e1, bs]
  dsimp only
  rw [e2, bs]
  dsimp only
  rw [cmdBytes_s ck cs cq K Vl hK hV (by omega) (by omega) hs hq, bs, e3, bs]
  dsimp only
  rw [wr (x := 1 + v1) (by omega) (by omega)]
  have hT : (decide (1 ≤ 1 + v1) && decide (1 + v1 ≤ 1000000)) = true := by simp; omega
  by_cases h30 : v3 = 0
  · subst h30
    rw [show ((0 : Int) == 0) = true from rfl, ct]
    exact ⟨_, 0, [], _, _, rfl, IsBytes.nil, by unfold entOK; rw [hT]; rfl, by omega, h3.mono (by omega) (by omega)⟩
  · rw [show (v3 == 0) = false from beq_eq_false_iff_ne.2 h30, cf]
    by_cases h31 : v3 = 1
    · subst h31
      rw [show ((1 : Int) == 1) = true from rfl, ct]
      obtain ⟨v4, a4, s4, e4, hv4, h4⟩ := pick_eq h3 (by omega) [(⟨#[0, 1, 2]⟩ : ByteArray), (⟨#[0, 1]⟩ : ByteArray), (⟨#[0, 1, 2, 3]⟩ : ByteArray), (⟨#[4]⟩ : ByteArray)] (by decide) (by decide)
      rw [e4, bs]
      dsimp only
      have : ∃ D, IsBytes D ∧ v4 = strL D ∧ memOK D = true := by
        simp only [List.mem_cons, List.not_mem_nil, or_false] at hv4
        have b : ∀ l : List Int, (l.all fun x => decide (0 ≤ x) && decide (x < 256)) = true → IsBytes l := fun l h y hy => by
          have := List.all_eq_true.1 h y hy
          simpa using this
        rcases hv4 with rfl | rfl | rfl | rfl
        · exact ⟨[0, 1, 2], b _ rfl, rfl, rfl⟩
        · exact ⟨[0, 1], b _ rfl, rfl, rfl⟩
        · exact ⟨[0, 1, 2, 3], b _ rfl, rfl, rfl⟩
        · exact ⟨[4], b _ rfl, rfl, rfl⟩
      obtain ⟨D, hD, rfl, hm⟩ := this
      exact ⟨_, 2, D, _, _, rfl, hD, by unfold entOK; rw [hT]; simp [hm], by omega, h4.mono (by omega) (by omega)⟩
    · rw [show (v3 == 1) = false from beq_eq_false_iff_ne.2 h31, cf]
      refine ⟨_, 1, _, _, _, rfl, cmdB_bytes hK hV, ?_, by omega, h3.mono (by omega) (by omega)⟩
      unfold entOK
      rw [hT]
      have := cmdB_length ck cs cq K Vl
      simp
      omega
end Go.Proofs.YtdpjbeeokimnaaaA

/-
  The laws' helpers at texts and entries. No condition.
-/
namespace Go.Proofs.YtdpjbeeokimnaaaA
open Go
set_option linter.unusedVariables false
set_option linter.unusedSimpArgs false

/-- A mark's text, of a number up to 2^62. -/
theorem markText_ok (k : Int) (h : k ≤ 4611686018427387904) : ∃ s, l_markText k = some s := by
  unfold l_markText l_markText.F
  by_cases h0 : k ≤ 0
  · rw [decide_t h0, ct]
    exact ⟨_, rfl⟩
  · rw [decide_f h0, cf]
    have key : ∀ (m n : Nat) (x : Int) (out : ByteArray), x ≤ m → m < n → 0 ≤ x → x ≤ 4611686018427387904 → out.size + m ≤ 9223372036854775000 →
        ∃ s, l_markText.l1 (fun out => grd (gCat (⟨#[109]⟩ : ByteArray) out) <| some ((⟨#[109]⟩ : ByteArray) ++ out)) n x out = some s := by
      intro m
      induction m with
      | zero =>
        intro n x out hx hn h1 h2 h3
        obtain ⟨n, rfl⟩ : ∃ q, n = q + 1 := ⟨n - 1, by omega⟩
        simp only [l_markText.l1]
        rw [decide_f (by omega), cf, grd_of (gCat_t (by
          have : (⟨#[109]⟩ : ByteArray).size = 1 := rfl
          omega))]
        exact ⟨_, rfl⟩
      | succ m ih =>
        intro n x out hx hn h1 h2 h3
        obtain ⟨n, rfl⟩ : ∃ q, n = q + 1 := ⟨n - 1, by omega⟩
        simp only [l_markText.l1]
        by_cases hp : x > 0
        · have hs : (strL [IntKind.wrap .u8 (IntKind.wrap .i64 ((48 : Int) + (Int.tmod x (10 : Int))))]).size = 1 := rfl
          rw [decide_t hp, ct, grd_of (gNz_t (by decide)), grd_of (gCat_t (by omega)), grd_of (gNz_t (by decide)), tdiv_pos (by omega), wr (x := x / 10) (by omega) (by omega)]
          refine ih n (x / 10) _ (by omega) (by omega) (by omega) (by omega) ?_
          rw [ByteArray.size_append, hs]
          omega
        · rw [decide_f hp, cf, grd_of (gCat_t (by
            have : (⟨#[109]⟩ : ByteArray).size = 1 := rfl
            omega))]
          exact ⟨_, rfl⟩
    exact key k.toNat fuel k ByteArray.empty (by omega) (fuel_big (by omega)) (by omega) h (by
      have : ByteArray.empty.size = 0 := rfl
      omega)
noncomputable def mT (k : Int) : ByteArray := (l_markText k).getD ByteArray.empty
theorem markText_eq (k : Int) (h : k ≤ 4611686018427387904) : l_markText k = some (mT k) := by
  obtain ⟨s, hs⟩ := markText_ok k h
  unfold mT
  rw [hs]
  rfl

/-! ### Rows of texts -/
/-- What the measure says: few of them, none long. -/
structure SzS (a : List ByteArray) : Prop where
  len : a.length ≤ 1048576
  each : ∀ s ∈ a, s.size ≤ 1048576
theorem szStringS_eq (a : List ByteArray) (left : Int) (h : 0 ≤ left) (hl : left ≤ 1048576) (ha : a.length ≤ 9223372036854775) (hs : ∀ s ∈ a, s.size ≤ 140737488351232) : ∃ r, l_szStringS a left = some r ∧ r ≤ left ∧ (¬ r < 0 → SzS a) := by
  unfold l_szStringS l_szStringS.F
  rw [wr (x := left - (a.length : Int)) (by omega) (by omega)]
  by_cases h0 : left - (a.length : Int) < 0
  · rw [decide_t h0, ct]
    exact ⟨_, rfl, by omega, fun h => by omega⟩
  · rw [decide_f h0, cf]
    have key : ∀ (m n i : Nat) (q : Int), i + m = a.length → m < n → 0 ≤ q → q ≤ left → ∃ r, l_szStringS.l1 (fun left1 => some left1) (fun i => some i) n a q i = some r ∧ r ≤ left ∧ (¬ r < 0 → ∀ s ∈ a.drop i, s.size ≤ 1048576) := by
      intro m
      induction m with
      | zero =>
        intro n i q e hn hq hq1
        obtain ⟨n, rfl⟩ : ∃ q, n = q + 1 := ⟨n - 1, by omega⟩
        simp only [l_szStringS.l1]
        rw [decide_f (by omega), cf, List.drop_of_length_le (by omega)]
        exact ⟨_, rfl, hq1, fun _ s hs => by simp at hs⟩
      | succ m ih =>
        intro n i q e hn hq hq1
        obtain ⟨n, rfl⟩ : ∃ q, n = q + 1 := ⟨n - 1, by omega⟩
        have hi : i < a.length := by omega
        have h2 := hs _ (List.getElem_mem hi)
        simp only [l_szStringS.l1]
        rw [decide_t (by omega), ct, grd_of (gIx_t (by omega) (by omega)), Int.toNat_natCast, rdE_at (k := .str) hi, wr (x := q - (a[i].size : Int)) (by omega) (by omega)]
        by_cases h3 : q - (a[i].size : Int) < 0
        · rw [decide_t h3, ct]
          exact ⟨_, rfl, by omega, fun h => by omega⟩
        · rw [decide_f h3, cf, wr (x := (i : Int) + 1) (by omega) (by omega)]
          obtain ⟨r, h4, h5, h6⟩ := ih n (i + 1) _ (by omega) (by omega) (by omega : 0 ≤ q - (a[i].size : Int)) (by omega)
          rw [show ((i + 1 : Nat) : Int) = (i : Int) + 1 by omega] at h4
          refine ⟨r, h4, h5, fun h s hs => ?_⟩
          rw [drop_cons hi] at hs
          rcases List.mem_cons.1 hs with rfl | hs
          · omega
          · exact h6 h s hs
    obtain ⟨r, h4, h5, h6⟩ := key a.length fuel 0 _ (by omega) (fuel_big (by omega)) (by omega : 0 ≤ left - (a.length : Int)) (by omega)
    refine ⟨r, h4, h5, fun h => ⟨by omega, fun s hs => h6 h s (by simpa using hs)⟩⟩
theorem toStringS_eq (a : List ByteArray) (h : a.length ≤ 1048576) : l_toStringS a = some a := by
  unfold l_toStringS l_toStringS.F
  rw [grd_of (gMk_t (by omega) (by omega) (by omega))]
  refine copy_loop (k := .str) (L := fun n i out => l_toStringS.l1 (fun out => some out) n a i out) (fin := fun out => some out) ?_ ?_ a.length fuel 0 _ (by omega) (fuel_big (by omega)) (by simp) (by simp)
  · intro n i out hi hl
    simp only [l_toStringS.l1]
    rw [decide_t (by omega), ct, grd_of (gIx_t (by omega) (by omega)), grd_of (gIx_t (by omega) (by omega)), wr (by omega) (by omega), Int.toNat_natCast, rdE_at (k := .str) hi, show ((i : Int) + 1) = ((i + 1 : Nat) : Int) by omega]
    rfl
  · intro n out
    simp only [l_toStringS.l1]
    rw [decide_f (by omega), cf]
theorem eqStringS_self (a : List ByteArray) (h : a.length ≤ 1048576) : l_eqStringS a a = some true := by
  unfold l_eqStringS l_eqStringS.F
  rw [show ((a.length : Int) != a.length) = false by simp, cf]
  have hs : ∀ (n : Nat) (s : Unit) (i : Nat), i < a.length → True → l_eqStringS.l1 (some true) (fun b1 => some b1) (n + 1) a a (i : Int) = l_eqStringS.l1 (some true) (fun b1 => some b1) n a a ((i + 1 : Nat) : Int) := by
    intro n _ i hi _
    simp only [l_eqStringS.l1]
    rw [decide_t (by omega), ct, grd_of (gIx_t (by omega) (by omega)), grd_of (gIx_t (by omega) (by omega)), sEq_self, Bool.not_true, cf, wr (by omega) (by omega), show ((i : Int) + 1) = ((i + 1 : Nat) : Int) by omega]
  have h0 : ∀ (n : Nat) (s : Unit), True → l_eqStringS.l1 (some true) (fun b1 => some b1) (n + 1) a a (a.length : Int) = some true := by
    intro n _ _
    simp only [l_eqStringS.l1]
    rw [decide_f (by omega), cf]
  obtain ⟨_, h1, _⟩ := pass_loop (S := Unit) (L := fun n _ i => l_eqStringS.l1 (some true) (fun b1 => some b1) n a a i) (len := a.length) (step := fun _ _ => ()) (fin := fun _ => some true) (fun _ _ => True) hs (fun _ _ _ _ => trivial) h0 a.length fuel 0 () (by omega) (fuel_big (by omega)) trivial
  exact h1
theorem markStringS_eq (a : List ByteArray) (h : a.length ≤ 1048576) (k : Int) (h0 : 0 < k) (h1 : k ≤ 1000000000000) : l_markStringS a k = some (k + a.length, mkL mT 1 k a.length) := by
  unfold l_markStringS l_markStringS.F
  have := mark_loop (k := .str) (L := fun n q i a => l_markStringS.l1 (fun k_1 a1 => some (k_1, a1)) n q i a) (f := mT) (c := 1) (by decide) (B := 2000000000000) (fin := fun q a => some (q, a)) ?_ ?_ a [] fuel k (fuel_big (by omega)) (by simp; omega) h0 (by omega)
  · simp only [List.length_nil, Int.natCast_zero, List.nil_append] at this
    rw [this, Int.one_mul]
  · intro n i q a hi hN hq hB
    simp only [l_markStringS.l1]
    rw [decide_t (by omega), ct, markText_eq q (by omega), bs, grd_of (gIx_t (by omega) (by omega)), wr (x := q + 1) (by omega) (by omega), wr (by omega) (by omega), Int.toNat_natCast, show ((i : Int) + 1) = ((i + 1 : Nat) : Int) by omega]
    rfl
  · intro n q a
    simp only [l_markStringS.l1]
    rw [decide_f (by omega), cf]

/-! ### Rows of entries -/
theorem eqEntry_self (t k : Int) (D : ByteArray) : l_eqEntry t k D t k D = some true := by
  unfold l_eqEntry l_eqEntry.F
  simp only [bne_self_eq_false, cf, sEq_self, Bool.not_true]
theorem eqEntryS_self (a : List (El kEntry)) (h : a.length ≤ 1048576) : l_eqEntryS a a = some true := by
  unfold l_eqEntryS l_eqEntryS.F
  rw [show ((a.length : Int) != a.length) = false by simp, cf]
  have hs : ∀ (n : Nat) (s : Unit) (i : Nat), i < a.length → True → l_eqEntryS.l1 (some true) (fun b1 => some b1) (n + 1) a a (i : Int) = l_eqEntryS.l1 (some true) (fun b1 => some b1) n a a ((i + 1 : Nat) : Int) := by
    intro n _ i hi _
    simp only [l_eqEntryS.l1]
    rw [decide_t (by omega), ct, grd_of (gIx_t (by omega) (by omega)), grd_of (gIx_t (by omega) (by omega)), eqEntry_self, bs, Bool.not_true, cf, wr (by omega) (by omega), show ((i : Int) + 1) = ((i + 1 : Nat) : Int) by omega]
  have h0 : ∀ (n : Nat) (s : Unit), True → l_eqEntryS.l1 (some true) (fun b1 => some b1) (n + 1) a a (a.length : Int) = some true := by
    intro n _ _
    simp only [l_eqEntryS.l1]
    rw [decide_f (by omega), cf]
  obtain ⟨_, h1, _⟩ := pass_loop (S := Unit) (L := fun n _ i => l_eqEntryS.l1 (some true) (fun b1 => some b1) n a a i) (len := a.length) (step := fun _ _ => ()) (fin := fun _ => some true) (fun _ _ => True) hs (fun _ _ _ _ => trivial) h0 a.length fuel 0 () (by omega) (fuel_big (by omega)) trivial
  exact h1
noncomputable def mE (k : Int) : El kEntry := (k, (k + 1, mT (k + 2)))
theorem markEntryS_eq (a : List (El kEntry)) (h : a.length ≤ 1048576) (k : Int) (h0 : 0 < k) (h1 : k ≤ 1000000000000) : l_markEntryS a k = some (k + 3 * a.length, mkL mE 3 k a.length) := by
  unfold l_markEntryS l_markEntryS.F
  have := mark_loop (k := kEntry) (L := fun n q i a => l_markEntryS.l1 (fun k_1 a1 => some (k_1, a1)) n q i a) (f := mE) (c := 3) (by decide) (B := 2000000000000) (fin := fun q a => some (q, a)) ?_ ?_ a [] fuel k (fuel_big (by omega)) (by simp; omega) h0 (by omega)
  · simp only [List.length_nil, Int.natCast_zero, List.nil_append] at this
    rw [this]
  · intro n i q a hi hN hq hB
    simp only [l_markEntryS.l1]
    rw [decide_t (by omega), ct]
    simp only [setE_length (k := kEntry), Int.toNat_natCast, rdE_setE (k := kEntry) _ _ _ hi, rdE_setE (k := kEntry) _ _ _ (show i < (setE kEntry a i (q, (rdE kEntry a i).2)).length by rw [setE_length]; exact hi), setE_setE (k := kEntry)]
    rw [grd_of (gIx_t (by omega) (by omega)), grd_of (gIx_t (by omega) (by omega)), wr (x := q + 1) (by omega) (by omega), wr (x := q + 1 + 1) (by omega) (by omega), markText_eq _ (by omega), bs, grd_of (gIx_t (by omega) (by omega)), wr (x := q + 1 + 1 + 1) (by omega) (by omega), wr (by omega) (by omega), show ((i : Int) + 1) = ((i + 1 : Nat) : Int) by omega, show q + 1 + 1 + 1 = q + 3 by omega, show q + 1 + 1 = q + 2 by omega]
    rfl
  · intro n q a
    simp only [l_markEntryS.l1]
    rw [decide_f (by omega), cf]
theorem heldEntryS_eq (n : Nat) (h : n ≤ 1048576) (k : Int) (h0 : 0 < k) (h1 : k ≤ 1000000000000) : l_heldEntryS (mkL mE 3 k n) k = some (k + 3 * n) := by
  have hl := mkL_length mE 3 k n
  unfold l_heldEntryS l_heldEntryS.F
  have := held_loop (k := kEntry) (L := fun n a q i => l_heldEntryS.l1 (fun k_1 => some k_1) (fun i => some i) n a q i) (f := mE) (c := 3) (by decide) (B := 2000000000000) (a := mkL mE 3 k n) (fin := fun q => some q) ?_ ?_ (q0 := k) (by rw [hl]) h0 (by rw [hl]; omega) n fuel 0 (by omega) (fuel_big (by omega))
  · simp only [Int.natCast_zero, Int.mul_zero, Int.add_zero, hl] at this
    exact this
  · intro n' i q hi hg hq hB
    simp only [l_heldEntryS.l1]
    rw [decide_t (by omega), ct, Int.toNat_natCast, rdE_at hi, hg]
    simp only [mE]
    rw [grd_of (gIx_t (by omega) (by omega)), bne_self_eq_false, cf, grd_of (gIx_t (by omega) (by omega)), wr (x := q + 1) (by omega) (by omega), bne_self_eq_false, cf, grd_of (gIx_t (by omega) (by omega)), wr (x := q + 1 + 1) (by omega) (by omega), show q + 1 + 1 = q + 2 by omega, markText_eq _ (by omega), bs, sEq_self, Bool.not_true, cf, wr (x := q + 2 + 1) (by omega) (by omega), wr (by omega) (by omega), show ((i : Int) + 1) = ((i + 1 : Nat) : Int) by omega, show q + 2 + 1 = q + 3 by omega]
  · intro n' q
    simp only [l_heldEntryS.l1]
    rw [decide_f (by omega), cf]
end Go.Proofs.YtdpjbeeokimnaaaA

/-
  Hashes' tests, trusts, proofs' codes. No condition.
-/
namespace Go.Proofs.YtdpjbeeokimnaaaA
open Go
set_option linter.unusedVariables false
set_option linter.unusedSimpArgs false

theorem any_not_all {α : Type} (q : α → Bool) (l : List α) : (!(l.any fun x => !q x)) = l.all q := by
  induction l with
  | nil => rfl
  | cons x l ih => rw [List.any_cons, List.all_cons, ← ih]; cases q x <;> simp
def is32 (t : ByteArray) : Bool := decide (t.size = 32)
theorem isHash_eq (l : List ByteArray) (h : l.length ≤ 1000000000) : i_isHash l = some (l.all is32) := by
  unfold i_isHash i_isHash.F slices_ContainsFunc_SLstring_string slices_ContainsFunc_SLstring_string.F slices_IndexFunc_SLstring_string slices_IndexFunc_SLstring_string.F
  have hq : ∀ x ∈ l, (fun x : ByteArray => (fun t : ByteArray × Unit => (i_isHash_1 t.1).bind fun a => some (a, ())) (x, ())) x = some (!is32 x, ()) := by
    intro x _
    have : ((x.size : Int) != 32) = !is32 x := by
      rw [Bool.eq_iff_iff, bne_iff_ne, is32, Bool.not_eq_true', decide_eq_false_iff_not]
      omega
    simp only [i_isHash_1, i_isHash_1.F, bs, this]
  have := find_loop (k := .str) (L := slices_IndexFunc_SLstring_string.l1 (fun t => (i_isHash_1 t.1).bind fun a => some (a, ())) (some (-1 : Int)) (fun i => some i)) (fun n s i j => rfl) (l := l) (by omega) hq l.length fuel 0 (by omega) (fuel_big (by omega))
  rw [Int.natCast_zero] at this
  rw [this, List.drop_zero, ← any_not_all, ← findIdx_any]
  cases l.findIdx? fun x => !is32 x with
  | none => rfl
  | some d => simp
theorem l06Hashes_eq (l : List ByteArray) (h : l.length ≤ 1000000000) : s_l06Hashes l = some (decide (l.length ≤ 64) && l.all is32) := by
  unfold s_l06Hashes s_l06Hashes.F
  by_cases h0 : l.length > 64
  · rw [decide_t (by omega), ct, decide_f (by omega), Bool.false_and]
  · rw [decide_f (by omega), cf, decide_t (by omega), Bool.true_and]
    have key : ∀ (m n j : Nat), j + m = l.length → m < n → s_l06Hashes.l1 (some true) (fun b => some b) n l j = some ((l.drop j).all is32) := by
      intro m
      induction m with
      | zero =>
        intro n j e hn
        obtain ⟨n, rfl⟩ : ∃ q, n = q + 1 := ⟨n - 1, by omega⟩
        simp only [s_l06Hashes.l1]
        rw [decide_f (by omega), cf, List.drop_of_length_le (by omega)]
        rfl
      | succ m ih =>
        intro n j e hn
        obtain ⟨n, rfl⟩ : ∃ q, n = q + 1 := ⟨n - 1, by omega⟩
        have hj : j < l.length := by omega
        simp only [s_l06Hashes.l1]
        rw [decide_t (by omega), ct, grd_of (gIx_t (by omega) (by omega)), Int.toNat_natCast, rdE_at (k := .str) hj, drop_cons hj, List.all_cons]
        by_cases h1 : l[j].size = 32
        · rw [show ((l[j].size : Int) != 32) = false by simp [h1], cf, wr (by omega) (by omega), show ((j : Int) + 1) = ((j + 1 : Nat) : Int) by omega, ih n (j + 1) (by omega) (by omega), show is32 l[j] = true from decide_eq_true h1, Bool.true_and]
        · rw [show ((l[j].size : Int) != 32) = true by simp; omega, ct, show is32 l[j] = false from decide_eq_false h1, Bool.false_and]
    exact key l.length fuel 0 (by omega) (fuel_big (by omega))
theorem isText_nil : i_isText [] = some true := by
  unfold i_isText i_isText.F slices_ContainsFunc_SLstring_string slices_ContainsFunc_SLstring_string.F slices_IndexFunc_SLstring_string slices_IndexFunc_SLstring_string.F
  obtain ⟨q, hq⟩ : ∃ q, fuel = q + 1 := ⟨fuel - 1, by rw [fuel_eq]⟩
  rw [hq]
  rfl
theorem proofCode_nil (p : List ByteArray) (h : p.length ≤ 1000000000) : i_proofCode p [] = some (if p.length > 4096 then 2 else if (decide (p.length ≤ 64) && p.all is32) = true then 0 else 1) := by
  unfold i_proofCode i_proofCode.F i_proofCode.j1 i_isList_string i_isList_string.F
  rw [bs]
  by_cases h0 : p.length > 4096
  · rw [decide_f (by omega), Bool.not_false, ct, if_pos h0]
    rfl
  · rw [decide_t (by omega), Bool.not_true, cf, isText_nil, bs]
    dsimp only
    rw [Bool.not_true, cf, isHash_eq [] (by decide), bs, show (List.all [] is32) = true from rfl, Bool.not_true, cf, if_neg h0]
    by_cases h1 : p.length ≤ 64
    · rw [decide_f (by omega), cf, isHash_eq p h, bs, decide_t h1, Bool.true_and]
      cases p.all is32 <;> rfl
    · rw [decide_t (by omega), ct, decide_f h1, Bool.false_and, if_neg (by decide)]
def stmOK (S : Int) (L M : ByteArray) : Bool := (decide (0 ≤ S) && decide (S ≤ 50)) && (is32 L && is32 M)
def trOK (K : ByteArray) (H : Bool) (S : Int) (L M : ByteArray) : Bool := is32 K && cond H (stmOK S L M) ((S == 0) && (sEq L ByteArray.empty && sEq M ByteArray.empty))
theorem statementOK_i (S : Int) (L M : ByteArray) : i_statementOK S L M = some (stmOK S L M) := by
  unfold i_statementOK i_statementOK.F stmOK
  rw [within_eq, bs, isHash_eq [L, M] (by simp), bs]
  cases (decide (0 ≤ S) && decide (S ≤ 50)) with
  | false => rw [cf, Bool.false_and]
  | true => rw [ct, Bool.true_and]; simp
theorem size32 (t : ByteArray) : ((t.size : Int) == 32) = is32 t := by
  rw [Bool.eq_iff_iff, beq_iff_eq, is32, decide_eq_true_iff]
  omega
theorem size32' (t : ByteArray) : ((t.size : Int) != 32) = !is32 t := by rw [bne, size32]
theorem statement_s (S : Int) (L M : ByteArray) : s_l15Statement S L M = some (stmOK S L M) := by
  unfold s_l15Statement s_l15Statement.F stmOK
  rw [l01In_eq, bs, size32, size32]
  cases (decide (0 ≤ S) && decide (S ≤ 50)) with
  | false => rw [cf, Bool.false_and]
  | true =>
    rw [ct, Bool.true_and]
    cases is32 L <;> rfl
theorem trustOK_i (K : ByteArray) (H : Bool) (S : Int) (L M : ByteArray) : i_TrustOK K H S L M = some (trOK K H S L M) := by
  unfold i_TrustOK i_TrustOK.F i_Trust_last i_Trust_last.F trOK
  rw [isHash_eq [K] (by simp), bs]
  simp only [bs, statementOK_i, List.all_cons, List.all_nil, Bool.and_true]
  cases is32 K <;> cases H <;> rfl
theorem trustOK_s (K : ByteArray) (H : Bool) (S : Int) (L M : ByteArray) : s_TrustOK K H S L M = some (trOK K H S L M) := by
  unfold s_TrustOK s_TrustOK.F trOK
  rw [size32', statement_s]
  simp only [bs]
  cases is32 K with
  | false => rfl
  | true =>
    cases H with
    | true => rfl
    | false =>
      cases (S == 0) with
      | false => rfl
      | true => cases sEq L ByteArray.empty <;> rfl
theorem checkEntry_eq (K : ByteArray) (H : Bool) (S : Int) (L M data : ByteArray) (at_ : Int) (p : List ByteArray) (hp : p.length ≤ 1000000000) : ∃ c, i_CheckEntry K H S L M data at_ p = some c ∧ s_CheckEntry K H S L M data at_ p = some c := by
  unfold i_CheckEntry i_CheckEntry.F s_CheckEntry s_CheckEntry.F
  by_cases hd : data.size ≥ 65536
  · refine ⟨2, by rw [decide_t (by omega), ct], ?_⟩
    by_cases h0 : p.length > 4096
    · rw [decide_t (by omega), ct]
    · rw [decide_f (by omega), cf, decide_t (by omega), ct]
  · rw [decide_f (by omega), cf, decide_f (show ¬ (data.size : Int) > 65535 by omega), cf, proofCode_nil p hp, bs, trustOK_i, trustOK_s, l06Hashes_eq p hp]
    by_cases h0 : p.length > 4096
    · rw [if_pos h0, decide_t (show (p.length : Int) > 4096 by omega), ct]
      exact ⟨2, rfl, rfl⟩
    · rw [if_neg h0, decide_f (show ¬ (p.length : Int) > 4096 by omega), cf]
      simp only [bs]
      cases hh : (decide (p.length ≤ 64) && p.all is32) with
      | false =>
        rw [if_neg (by decide), show ((1 : Int) != 0) = true from rfl, ct]
        refine ⟨1, rfl, ?_⟩
        cases trOK K H S L M <;> rfl
      | true =>
        rw [if_pos rfl, show ((0 : Int) != 0) = false from rfl, cf]
        cases ht : trOK K H S L M with
        | false => exact ⟨1, rfl, rfl⟩
        | true =>
          rw [Bool.not_true, cf, cf, cf]
          cases H with
          | false => exact ⟨5, rfl, rfl⟩
          | true =>
            rw [Bool.not_true, cf, cf, within_eq, l01In_eq]
            simp only [bs]
            have hS' : 0 ≤ S ∧ S ≤ 50 := by
              unfold trOK stmOK at ht
              rw [cond_true, Bool.and_eq_true, Bool.and_eq_true, Bool.and_eq_true, decide_eq_true_iff, decide_eq_true_iff] at ht
              exact ht.2.1
            rw [wr (x := S - 1) (by omega) (by omega)]
            cases ha : (decide (0 ≤ at_) && decide (at_ ≤ S - 1)) with
            | false => exact ⟨4, rfl, rfl⟩
            | true =>
              have ha' : 0 ≤ at_ ∧ at_ ≤ S - 1 := by
                rw [Bool.and_eq_true, decide_eq_true_iff, decide_eq_true_iff] at ha
                exact ha
              have hp32 : p.length ≤ 64 ∧ Small p := by
                rw [Bool.and_eq_true, decide_eq_true_iff, List.all_eq_true] at hh
                exact ⟨hh.1, by omega, fun s hs => by have := of_decide_eq_true (hh.2 s hs); omega⟩
              rw [Bool.not_true, cf, cf, leafHash_i data (by omega), leaf_s data (by omega)]
              simp only [bs]
              obtain ⟨own, st, i1, i2, i3, i4, i5⟩ := incl_i (leafV data) (by rw [leafV_size]; omega) 50 fuel at_ S p false [] (by omega) (fuel_big (by omega)) (by omega) (by omega) (by omega) hp32.2 (by simp)
              obtain ⟨own', j1, j2, j3⟩ := up_s (leafV data) (by rw [leafV_size]; omega) 50 fuel at_ S p (by omega) (by omega) (fuel_big (by omega)) (by omega) (by omega) (by omega) hp32.2
              rw [j1]
              unfold i_inclusionRoot i_inclusionRoot.F
              rw [within_eq, bs, decide_t (show (1 : Int) ≤ S by omega), decide_t (show S ≤ 64 by omega), Bool.and_self, Bool.not_true, cf, within_eq, wr (x := S - 1) (by omega) (by omega), bs, ha, Bool.not_true, cf, i1]
              simp only [bs, Bool.false_or]
              by_cases h1 : p.length < (ways 50 at_ S).length
              · rw [decide_t h1, ct, decide_f (show ¬ p.length = (ways 50 at_ S).length by omega)]
                exact ⟨10, rfl, rfl⟩
              · rw [decide_f h1, cf]
                by_cases h2 : p.length = (ways 50 at_ S).length
                · have h3 : own = own' := by rw [i5 (by omega), j3 h2, ← h2, List.take_length]
                  rw [decide_t h2, decide_f (by rw [List.length_drop]; omega), cf, h3]
                  simp only [bs, Bool.not_true, cf]
                  rw [show ((0 : Int) != 0) = false from rfl, cf]
                  cases sEq own' L with
                  | true => exact ⟨0, rfl, rfl⟩
                  | false => exact ⟨11, rfl, rfl⟩
                · rw [decide_f h2, decide_t (by rw [List.length_drop]; omega), ct]
                  exact ⟨10, rfl, rfl⟩
theorem szTrust_eq (K : ByteArray) (H : Bool) (S : Int) (L M : ByteArray) (hK : K.size ≤ 140737488351232) (hL : L.size ≤ 140737488351232) (hM : M.size ≤ 140737488351232) : ∃ r, l_szTrust K H S L M 1048576 = some r ∧ r ≤ 1048576 := by
  unfold l_szTrust l_szTrust.F
  rw [wr (x := (1048576 : Int) - K.size) (by omega) (by omega), wr (x := (1048576 : Int) - K.size - L.size) (by omega) (by omega), wr (x := (1048576 : Int) - K.size - L.size - M.size) (by omega) (by omega)]
  by_cases h1 : (1048576 : Int) - K.size < 0
  · rw [decide_t h1, ct]
    exact ⟨_, rfl, by decide⟩
  · rw [decide_f h1, cf]
    by_cases h2 : (1048576 : Int) - K.size - L.size < 0
    · rw [decide_t h2, ct]
      exact ⟨_, rfl, by decide⟩
    · rw [decide_f h2, cf]
      by_cases h3 : (1048576 : Int) - K.size - L.size - M.size < 0
      · rw [decide_t h3, ct]
        exact ⟨_, rfl, by decide⟩
      · rw [decide_f h3, cf]
        exact ⟨_, rfl, by omega⟩
end Go.Proofs.YtdpjbeeokimnaaaA

/-
  The law FnExactCheckEntry: its pure statement holds. No condition.
-/
namespace Go.Proofs.YtdpjbeeokimnaaaA
open Go
set_option linter.unusedVariables false
set_option linter.unusedSimpArgs false

theorem wf64 {x : Int} (h : (Lit.int .i64 x).wf = true) : -9223372036854775808 ≤ x ∧ x ≤ 9223372036854775807 := by
  simp [Lit.wf, IntKind.min, IntKind.max, IntKind.signed, IntKind.bits] at h
  exact h
theorem pFnExactCheckEntry : ∀ (x0 : El kTrust) (x1 : El .str) (x2 : El (.int .i64)) (x3 : El (.list .str)), ((ByteArray.size x0.1 ≤ 140737488351232) ∧ ((True) ∧ (((Lit.int .i64 x0.2.2.1).wf = true) ∧ ((ByteArray.size x0.2.2.2.1 ≤ 140737488351232) ∧ (ByteArray.size x0.2.2.2.2 ≤ 140737488351232))))) → (ByteArray.size x1 ≤ 140737488351232) → ((Lit.int .i64 x2).wf = true) → (x3.length * 16 ≤ 140737488351232 ∧ x3.length ≤ maxLen ∧ ∀ y ∈ x3, ByteArray.size y ≤ 140737488351232) → l_FnExactCheckEntry x0.1 x0.2.1 x0.2.2.1 x0.2.2.2.1 x0.2.2.2.2 x1 x2 x3 = some true := by
  intro x0 x1 x2 x3 ⟨a1, _, a2, a3, a4⟩ a5 a6 ⟨a7, a8, a9⟩
  obtain ⟨K, H, S, L, M⟩ := x0
  dsimp only at a1 a2 a3 a4 ⊢
  have hS := wf64 a2
  unfold l_FnExactCheckEntry l_FnExactCheckEntry.F
  by_cases h0 : (x1.size : Int) > 1048576
  · rw [decide_t h0, ct]
  · rw [decide_f h0, cf]
    obtain ⟨r, hr, hr1⟩ := szTrust_eq K H S L M a1 a3 a4
    rw [hr, bs]
    by_cases hn : r < 0
    · rw [decide_t hn, ct]
    · rw [decide_f hn, cf]
      obtain ⟨r1, h1, h2, h3⟩ := szStringS_eq x3 r (by omega) (by omega) (by omega) a9
      rw [h1, bs]
      by_cases hn1 : r1 < 0
      · rw [decide_t hn1, ct]
      · rw [decide_f hn1, cf]
        have hlen : List.length (α := ByteArray) x3 ≤ 1048576 := (h3 hn1).len
        have ht : l_toTrust K H S L M = some (K, H, S, L, M) := rfl
        obtain ⟨c, hi, hs⟩ := checkEntry_eq K H S L M x1 x2 x3 (by omega)
        simp only [ht, toStringS_eq x3 hlen, bs, hi, hs, bne_self_eq_false, cf, eqStringS_self x3 hlen, Bool.not_true]
end Go.Proofs.YtdpjbeeokimnaaaA
