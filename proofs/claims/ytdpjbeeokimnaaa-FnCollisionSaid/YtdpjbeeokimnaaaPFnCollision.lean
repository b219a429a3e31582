import Derived.Test.YtdpjbeeokimnaaaAWord
import Derived.Laws.BytesArg
import Derived.Lib.Strings
import Derived.Test.YtdpjbeeokimnaaaXqF1
/-
  Numbers, bytes and texts as the printed functions use them. No condition.
-/
namespace Go.Proofs.YtdpjbeeokimnaaaA
open Go
set_option linter.unusedVariables false
set_option linter.unusedSimpArgs false

/-! ### Guards -/
/-- These three hold by computing; stated so that a rewriting does not leave that to the kernel. -/
theorem bs {A B : Type} (a : A) (f : A → Option B) : Option.bind (some a) f = f a := id rfl
theorem ct {A : Type} (a b : A) : cond true a b = a := id rfl
theorem cf {A : Type} (a b : A) : cond false a b = b := id rfl
theorem grd_of {R : Type} {g : Bool} (h : g = true) (x : Option R) : grd g x = x := by rw [h]; rfl
theorem gIx_t {i : Int} {n : Nat} (h : 0 ≤ i) (h' : i < n) : gIx i n = true := by simp [gIx, h, h']
theorem gSl_t {l h : Int} {n : Nat} (h0 : 0 ≤ l) (h1 : l ≤ h) (h2 : h ≤ n) : gSl l h n = true := by simp [gSl, h0, h1, h2]
theorem gRm_t {n : Nat} (h : n ≤ 140737488355328) : gRm n = true := by simp [gRm, h]
theorem gCat_t {x y : ByteArray} (h : x.size + y.size ≤ 9223372036854775807) : gCat x y = true := by
  unfold gCat
  rw [decide_eq_true_iff]
  omega
theorem gSh_t {y : Int} (h : 0 ≤ y) : gSh y = true := by simp [gSh, h]
theorem gNz_t {y : Int} (h : y ≠ 0) : gNz y = true := by simp [gNz, h]
theorem gMk_t {l c : Int} {b : Nat} (h0 : 0 ≤ l) (h1 : l ≤ c) (h2 : c * b ≤ 140737488355328) : gMk l c b = true := by simp [gMk, h0, h1, h2]
theorem wr {x : Int} (h : -9223372036854775808 ≤ x) (h' : x ≤ 9223372036854775807) : IntKind.wrap .i64 x = x := by
  simp only [IntKind.wrap, IntKind.signed, IntKind.bits]
  simp
  omega
theorem wr8 {x : Int} (h : 0 ≤ x) (h' : x < 256) : IntKind.wrap .u8 x = x := by
  simp only [IntKind.wrap, IntKind.signed, IntKind.bits]
  simp
  omega
theorem wr8m (x : Int) : IntKind.wrap .u8 x = x % 256 := by
  simp only [IntKind.wrap, IntKind.signed, IntKind.bits]
  simp
theorem wr32m (x : Int) : IntKind.wrap .u32 x = x % 4294967296 := by
  simp only [IntKind.wrap, IntKind.signed, IntKind.bits]
  simp
theorem shr_eq {x : Int} {n : Int} (h0 : 0 ≤ n) (h1 : n ≤ 64) : iShr .i64 x n = x / 2 ^ n.toNat := by
  unfold iShr
  rw [show min n.toNat (IntKind.bits .i64) = n.toNat by simp [IntKind.bits]; omega]
  rw [Int.fdiv_eq_ediv_of_nonneg]
  exact Int.pow_nonneg (by decide)
theorem shr8 (x : Int) : iShr .i64 x 8 = x / 256 := by rw [shr_eq (by decide) (by decide)]; rfl
theorem tmod_pos {x y : Int} (h : 0 ≤ x) : Int.tmod x y = x % y := Int.tmod_eq_emod_of_nonneg h
theorem tdiv_pos {x y : Int} (h : 0 ≤ x) : Int.tdiv x y = x / y := Int.tdiv_eq_ediv_of_nonneg h

/-! ### Bytes -/
def IsBytes (l : List Int) : Prop := ∀ y ∈ l, 0 ≤ y ∧ y < 256
theorem IsBytes.nil : IsBytes [] := fun y h => by simp at h
theorem IsBytes.cons {a : Int} {l : List Int} (h0 : 0 ≤ a) (h1 : a < 256) (h : IsBytes l) : IsBytes (a :: l) := fun y hy => by
  rcases List.mem_cons.1 hy with rfl | hy
  · exact ⟨h0, h1⟩
  · exact h y hy
theorem IsBytes.append {l m : List Int} (h : IsBytes l) (h' : IsBytes m) : IsBytes (l ++ m) := fun y hy => (List.mem_append.1 hy).elim (h y) (h' y)
theorem IsBytes.left {l m : List Int} (h : IsBytes (l ++ m)) : IsBytes l := fun y hy => h y (List.mem_append.2 (.inl hy))
theorem IsBytes.right {l m : List Int} (h : IsBytes (l ++ m)) : IsBytes m := fun y hy => h y (List.mem_append.2 (.inr hy))
theorem IsBytes.drop {l : List Int} (h : IsBytes l) (n : Nat) : IsBytes (l.drop n) := fun y hy => h y (List.mem_of_mem_drop hy)
theorem IsBytes.take {l : List Int} (h : IsBytes l) (n : Nat) : IsBytes (l.take n) := fun y hy => h y (List.mem_of_mem_take hy)
theorem IsBytes.sub {l : List Int} (h : IsBytes l) (a b : Int) : IsBytes (sub l a b) := (h.take _).drop _
theorem IsBytes.get {l : List Int} (h : IsBytes l) {i : Nat} (hi : i < l.length) : 0 ≤ l[i] ∧ l[i] < 256 := h _ (List.getElem_mem _)
theorem IsBytes.bytesL (s : ByteArray) : IsBytes (bytesL s) := fun y hy => by
  obtain ⟨b, _, rfl⟩ := List.mem_map.1 hy
  have := b.toNat_lt
  omega
theorem isBytes_of_wf {l : List Int} (h : ∀ y ∈ l, (Lit.int .u8 y).wf = true) : IsBytes l := fun y hy => by
  have := h y hy
  simp [Lit.wf, IntKind.min, IntKind.max, IntKind.signed, IntKind.bits] at this
  omega
theorem ba_ext {a b : ByteArray} (h : a.data.toList = b.data.toList) : a = b := by
  obtain ⟨⟨l⟩⟩ := a
  obtain ⟨⟨m⟩⟩ := b
  simp at h
  subst h
  rfl
theorem strL_size (l : List Int) : (strL l).size = l.length := by
  show (List.toArray _).size = _
  simp
theorem bytesL_length (s : ByteArray) : (bytesL s).length = s.size := by simp [bytesL]
theorem strL_list (l : List Int) : (strL l).data.toList = l.map fun n => UInt8.ofNat n.toNat := by simp [strL]
theorem strL_bytesL (s : ByteArray) : strL (bytesL s) = s := by
  apply ba_ext
  rw [strL_list, bytesL, List.map_map]
  conv => rhs; rw [← List.map_id s.data.toList]
  apply List.map_congr_left
  intro b _
  simp
theorem bytesL_strL {l : List Int} (h : IsBytes l) : bytesL (strL l) = l := by
  unfold bytesL
  rw [strL_list, List.map_map]
  conv => rhs; rw [← List.map_id l]
  apply List.map_congr_left
  intro b hb
  have := h b hb
  simp
  omega
theorem strL_append (l m : List Int) : strL l ++ strL m = strL (l ++ m) := by
  apply ba_ext
  rw [ByteArray.data_append, Array.toList_append, strL_list, strL_list, strL_list, List.map_append]
theorem cut_strL (l : List Int) (a b : Int) : cut (strL l) a b = strL (sub l a b) := by
  apply ba_ext
  unfold cut sub
  rw [Lib.extract_data, strL_list, strL_list, ← List.map_drop, ← List.map_take, List.drop_take]
theorem byteAt_strL {l : List Int} (h : IsBytes l) {i : Int} (h0 : 0 ≤ i) (h1 : i < l.length) : byteAt (strL l) i = l.getD i.toNat 0 := by
  have hi : i.toNat < l.length := by omega
  have hs : i.toNat < (strL l).size := by rw [strL_size]; exact hi
  unfold byteAt
  rw [dif_pos hs]
  have e : (strL l)[i.toNat]'hs = UInt8.ofNat (l[i.toNat]).toNat := by
    show (strL l).data[i.toNat]'_ = _
    simp [strL]
  rw [e, List.getD_eq_getElem?_getD, List.getElem?_eq_getElem hi]
  have := h l[i.toNat] (List.getElem_mem _)
  simp
  omega
theorem sEq_iff {a b : ByteArray} : sEq a b = true ↔ a = b := by
  unfold sEq
  rw [beq_iff_eq]
  constructor
  · intro h
    apply ba_ext
    rwa [ByteArray.toList_eq, ByteArray.toList_eq] at h
  · rintro rfl; rfl
theorem sEq_self (a : ByteArray) : sEq a a = true := sEq_iff.2 rfl
theorem strL_inj {l m : List Int} (hl : IsBytes l) (hm : IsBytes m) (h : strL l = strL m) : l = m := by rw [← bytesL_strL hl, ← bytesL_strL hm, h]
theorem bytesL_inj {s t : ByteArray} (h : bytesL s = bytesL t) : s = t := by rw [← strL_bytesL s, ← strL_bytesL t, h]
theorem sEq_strL {l m : List Int} (hl : IsBytes l) (hm : IsBytes m) : sEq (strL l) (strL m) = decide (l = m) := by
  rw [Bool.eq_iff_iff, sEq_iff, decide_eq_true_iff]
  exact ⟨strL_inj hl hm, fun h => by rw [h]⟩
theorem sEq_dec (a b : ByteArray) : sEq a b = decide (a = b) := by rw [Bool.eq_iff_iff, sEq_iff, decide_eq_true_iff]

/-! ### Rows -/
theorem sub_take {α : Type} (l : List α) (n : Int) : sub l 0 n = l.take n.toNat := by simp [sub]
theorem sub_drop {α : Type} (l : List α) (n : Int) {m : Int} (h : m = l.length) : sub l n m = l.drop n.toNat := by subst h; simp [sub]
theorem sub_length {α : Type} (l : List α) {a b : Int} (h0 : 0 ≤ a) (h1 : a ≤ b) (h2 : b ≤ l.length) : ((sub l a b).length : Int) = b - a := by
  simp [sub]
  omega
theorem rdE_at {k : Kd} {l : List (El k)} {i : Nat} (h : i < l.length) : rdE k l i = l[i] := by
  unfold rdE
  rw [List.getD_eq_getElem?_getD, List.getElem?_eq_getElem h]
  rfl
theorem take_snoc {α : Type} {l : List α} {i : Nat} (h : i < l.length) : l.take (i + 1) = l.take i ++ [l[i]] := by
  rw [List.take_add_one, List.getElem?_eq_getElem h]
  rfl
theorem drop_cons {α : Type} {l : List α} {i : Nat} (h : i < l.length) : l.drop i = l[i] :: l.drop (i + 1) := List.drop_eq_getElem_cons h
theorem decide_t {p : Prop} [Decidable p] (h : p) : decide p = true := decide_eq_true h
theorem decide_f {p : Prop} [Decidable p] (h : ¬ p) : decide p = false := decide_eq_false h
end Go.Proofs.YtdpjbeeokimnaaaA

/-
  Numbers in bytes, and back: what the printed functions 'number', 'numberOf', 'within' compute. No condition.
-/
namespace Go.Proofs.YtdpjbeeokimnaaaA
open Go
set_option linter.unusedVariables false
set_option linter.unusedSimpArgs false

theorem fuel_gt {n : Nat} (h : n < 18446744073709551616) : ∃ m, fuel = n + m + 1 := ⟨fuel - n - 1, by rw [fuel_eq]; omega⟩
/-- A number in so many bytes, the highest first. -/
def beL (n : Int) : Nat → List Int
  | 0 => []
  | m + 1 => beL (n / 256) m ++ [n % 256]
theorem beL_length (n : Int) (m : Nat) : (beL n m).length = m := by
  induction m generalizing n with
  | zero => rfl
  | succ m ih => simp [beL, ih]
theorem beL_bytes (n : Int) (m : Nat) : IsBytes (beL n m) := by
  induction m generalizing n with
  | zero => exact IsBytes.nil
  | succ m ih => exact (ih _).append (IsBytes.cons (by omega) (by omega) IsBytes.nil)
theorem number_l1 {R : Type} (kk : List Int → Option R) : ∀ (j n : Nat) (x : Int) (out : List Int), j ≤ out.length → j < 1000 → j < n → i_number.l1 kk n x ((j : Int) - 1) out = kk (beL x j ++ out.drop j)
  | 0, n + 1, x, out, _, _, _ => by
    simp only [i_number.l1, decide_f (show ¬ ((0 : Nat) : Int) - 1 ≥ 0 by omega), cond_false]
    simp [beL]
  | j + 1, n + 1, x, out, h1, h2, h3 => by
    have e : (((j + 1 : Nat) : Int) - 1) = j := by omega
    rw [e]
    simp only [i_number.l1]
    rw [decide_t (by omega : (j : Int) ≥ 0), cond_true, grd_of (gIx_t (by omega) (by omega)), grd_of (gSh_t (by omega)), wr (by omega) (by omega), shr8, wr8m]
    rw [number_l1 kk j n (x / 256) _ (by simp [setE]; omega) (by omega) (by omega)]
    congr 1
    have hj : j < out.length := by omega
    simp only [setE, Int.toNat_natCast, beL, List.append_assoc]
    congr 1
    rw [List.drop_set_of_lt_drop hj]
where
  List.drop_set_of_lt_drop {out : List Int} {j : Nat} {a : Int} (hj : j < out.length) : (out.set j a).drop j = [a] ++ out.drop (j + 1) := by
    rw [List.drop_eq_getElem_cons (by simpa using hj), List.getElem_set_self, List.drop_set_of_lt (by omega)]
    rfl
theorem number_eq (x : Int) (m : Nat) (h : m < 1000) : i_number x m = some (strL (beL x m)) := by
  obtain ⟨q, hq⟩ := fuel_gt (n := m) (by omega)
  have hl : (List.replicate (Int.toNat (m : Int)) (0 : Int)).length = m := by simp
  unfold i_number i_number.F
  rw [grd_of (gMk_t (by omega) (by omega) (by omega)), wr (by omega) (by omega), number_l1 _ m fuel x _ (by omega) h (by omega)]
  congr 2
  rw [List.drop_of_length_le (by omega), List.append_nil]
theorem within_eq (n lo hi : Int) : i_within n lo hi = some (decide (lo ≤ n) && decide (n ≤ hi)) := by
  unfold i_within i_within.F
  by_cases h : n ≥ lo
  · simp [h]
  · simp [h]
theorem l01In_eq (n lo hi : Int) : s_l01In n lo hi = some (decide (lo ≤ n) && decide (n ≤ hi)) := by
  unfold s_l01In s_l01In.F
  by_cases h : n ≥ lo
  · simp [h]
  · simp [h]
end Go.Proofs.YtdpjbeeokimnaaaA

/-
  SHA-256: words, and a block of 64 bytes: the program's and the reference's. No condition.
-/
namespace Go.Proofs.YtdpjbeeokimnaaaA
open Go
set_option linter.unusedVariables false
set_option linter.unusedSimpArgs false

/-! ### Words -/
theorem bits32 (f : BitVec 32 → BitVec 32 → BitVec 32) (x y : Int) : bits .u32 f x y = ((f (BitVec.ofInt 32 x) (BitVec.ofInt 32 y)).toNat : Int) := by
  show IntKind.wrap .u32 ((f (BitVec.ofInt 32 x) (BitVec.ofInt 32 y)).toNat : Int) = _
  rw [wr32m]
  have := (f (BitVec.ofInt 32 x) (BitVec.ofInt 32 y)).isLt
  omega
theorem w32 (b : BitVec 32) : BitVec.ofInt 32 (b.toNat : Int) = b := by
  rw [BitVec.ofInt_natCast, BitVec.ofNat_toNat, BitVec.setWidth_eq]
theorem and32 (x y : Int) : iAnd .u32 x y = ((BitVec.ofInt 32 x &&& BitVec.ofInt 32 y).toNat : Int) := bits32 _ x y
theorem or32 (x y : Int) : iOr .u32 x y = ((BitVec.ofInt 32 x ||| BitVec.ofInt 32 y).toNat : Int) := bits32 _ x y
theorem xor32 (x y : Int) : iXor .u32 x y = ((BitVec.ofInt 32 x ^^^ BitVec.ofInt 32 y).toNat : Int) := bits32 _ x y
theorem or32_comm (x y : Int) : iOr .u32 x y = iOr .u32 y x := by rw [or32, or32, BitVec.or_comm]
theorem max32 : BitVec.ofInt 32 (IntKind.max .u32) = BitVec.allOnes 32 := by decide
theorem ch32 (e f g : Int) : iXor .u32 (iAnd .u32 e f) (iAnd .u32 (iXor .u32 (IntKind.max .u32) e) g) = iOr .u32 (iAnd .u32 e f) (iAnd .u32 (iXor .u32 (IntKind.max .u32) e) g) := by
  simp only [and32, or32, xor32, w32, max32]
  congr 2
  ext i hi
  simp only [BitVec.getElem_xor, BitVec.getElem_and, BitVec.getElem_or, BitVec.getElem_allOnes]
  cases (BitVec.ofInt 32 e)[i] <;> cases (BitVec.ofInt 32 f)[i] <;> cases (BitVec.ofInt 32 g)[i] <;> rfl
theorem maj32 (a b c : Int) : iXor .u32 (iXor .u32 (iAnd .u32 a b) (iAnd .u32 a c)) (iAnd .u32 b c) = iOr .u32 (iOr .u32 (iAnd .u32 a b) (iAnd .u32 a c)) (iAnd .u32 b c) := by
  simp only [and32, or32, xor32, w32]
  congr 2
  ext i hi
  simp only [BitVec.getElem_xor, BitVec.getElem_and, BitVec.getElem_or]
  cases (BitVec.ofInt 32 a)[i] <;> cases (BitVec.ofInt 32 b)[i] <;> cases (BitVec.ofInt 32 c)[i] <;> rfl
def rot (x b : Int) : Int := iOr .u32 (iShr .u32 x b) (iShl .u32 x (32 - b))
def Turns : List Int := [7, 18, 17, 19, 6, 11, 25, 2, 13, 22]
theorem rot_s (x b : Int) (h : b ∈ Turns) : s_l01Turn x b = some (rot x b) := by
  have h0 : 0 ≤ b ∧ b ≤ 32 := by
    simp only [Turns, List.mem_cons, List.mem_nil_iff, or_false] at h
    omega
  unfold s_l01Turn s_l01Turn.F
  have e : IntKind.wrap .u64 (32 - b) = 32 - b := by
    simp only [IntKind.wrap, IntKind.signed, IntKind.bits]
    simp
    omega
  rw [e, grd_of (gSh_t h0.1), grd_of (gSh_t (by omega))]
  rfl
theorem rot_i (x b : Int) (h : b ∈ Turns) : i_turned x b = some (rot x b) := by
  unfold i_turned i_turned.F math_bits_RotateLeft32 math_bits_RotateLeft32.F
  have e : iAnd .u64 (IntKind.wrap .u64 (IntKind.wrap .i64 (0 - b))) 31 = 32 - b ∧ IntKind.wrap .u64 (32 - (32 - b)) = b ∧ 0 ≤ b ∧ b ≤ 32 := by
    simp only [Turns, List.mem_cons, List.mem_nil_iff, or_false] at h
    rcases h with rfl | rfl | rfl | rfl | rfl | rfl | rfl | rfl | rfl | rfl <;> exact ⟨by decide, by decide, by decide, by decide⟩
  rw [e.1, e.2.1, grd_of (gSh_t (by omega)), grd_of (gSh_t e.2.2.1), bs, or32_comm]
  rfl

/-! ### Loops that step -/
def itF {S : Type} (step : Nat → S → S) : Nat → Nat → S → S
  | _, 0, s => s
  | i, m + 1, s => itF step (i + 1) m (step i s)
theorem it_loop {R S : Type} {L : Nat → Int → S → Option R} {N : Nat} {step : Nat → S → S} {fin : S → Option R} (Inv : S → Prop)
    (hs : ∀ n i s, i < N → Inv s → L (n + 1) (i : Int) s = L n ((i + 1 : Nat) : Int) (step i s) ∧ Inv (step i s)) (h0 : ∀ n s, Inv s → L (n + 1) (N : Int) s = fin s) :
    ∀ (m n i : Nat) (s : S), i + m = N → m < n → Inv s → L n i s = fin (itF step i m s) ∧ Inv (itF step i m s)
  | 0, n + 1, i, s, e, _, hi => by
    have : i = N := by omega
    subst this
    exact ⟨h0 n s hi, hi⟩
  | m + 1, n + 1, i, s, e, hn, hi => by
    obtain ⟨h1, h2⟩ := hs n i s (by omega) hi
    rw [h1]
    exact it_loop Inv hs h0 m n (i + 1) _ (by omega) (by omega) h2
theorem itF_congr {S : Type} {step step' : Nat → S → S} (Inv : S → Prop) : ∀ (m i : Nat) (s : S), (∀ j s, i ≤ j → j < i + m → Inv s → step j s = step' j s ∧ Inv (step j s)) → Inv s → itF step i m s = itF step' i m s ∧ Inv (itF step i m s)
  | 0, i, s, h, hi => ⟨rfl, hi⟩
  | m + 1, i, s, h, hi => by
    obtain ⟨h1, h2⟩ := h i s (Nat.le_refl _) (by omega) hi
    have := itF_congr Inv m (i + 1) (step i s) (fun j s hj hj' hs => h j s (by omega) (by omega) hs) h2
    refine ⟨?_, this.2⟩
    show itF step (i + 1) m (step i s) = itF step' (i + 1) m (step' i s)
    rw [this.1, h1]
theorem itF_add {S : Type} (step : Nat → S → S) : ∀ (m k i : Nat) (s : S), itF step i (m + k) s = itF step (i + m) k (itF step i m s)
  | 0, k, i, s => by rw [Nat.zero_add]; rfl
  | m + 1, k, i, s => by
    rw [show m + 1 + k = (m + k) + 1 by omega, show i + (m + 1) = (i + 1) + m by omega]
    exact itF_add step m k (i + 1) (step i s)

/-! ### The words of a block -/
abbrev k32 : Kd := .int .u32
def wB (b : List Int) (i : Nat) : Int :=
  iOr .u32 (iOr .u32 (iOr .u32 (iShl .u32 (IntKind.wrap .u32 (b.getD (4 * i) 0)) 24) (iShl .u32 (IntKind.wrap .u32 (b.getD (4 * i + 1) 0)) 16)) (iShl .u32 (IntKind.wrap .u32 (b.getD (4 * i + 2) 0)) 8)) (IntKind.wrap .u32 (b.getD (4 * i + 3) 0))
def wX (w : List Int) (i : Nat) : Int :=
  IntKind.wrap .u32 ((IntKind.wrap .u32 ((IntKind.wrap .u32 ((rdE k32 w (i - 16)) + (iXor .u32 (iXor .u32 (rot (rdE k32 w (i - 15)) 7) (rot (rdE k32 w (i - 15)) 18)) (iShr .u32 (rdE k32 w (i - 15)) 3)))) + (rdE k32 w (i - 7)))) + (iXor .u32 (iXor .u32 (rot (rdE k32 w (i - 2)) 17) (rot (rdE k32 w (i - 2)) 19)) (iShr .u32 (rdE k32 w (i - 2)) 10)))
def stA (b : List Int) (i : Nat) (w : List Int) : List Int := setE k32 w i (wB b i)
def stX (i : Nat) (w : List Int) : List Int := setE k32 w i (wX w i)
def stW (b : List Int) (i : Nat) (w : List Int) : List Int := if i < 16 then stA b i w else stX i w
def wsOf (b : List Int) : List Int := itF stX 16 48 (itF (stA b) 0 16 (List.replicate 64 0))
theorem stA_len {b : List Int} {i : Nat} {w : List Int} (h : w.length = 64) : (stA b i w).length = 64 := by simp [stA, setE, h]
theorem stX_len {i : Nat} {w : List Int} (h : w.length = 64) : (stX i w).length = 64 := by simp [stX, setE, h]
theorem wsOf_eq (b : List Int) : itF (stW b) 0 64 (List.replicate 64 0) = wsOf b ∧ (wsOf b).length = 64 := by
  have h1 := itF_congr (step := stW b) (step' := stA b) (fun w => w.length = 64) 16 0 (List.replicate 64 0) (fun j s _ hj hs => by
    rw [stW, if_pos (by omega)]
    exact ⟨rfl, stA_len hs⟩) (by simp)
  have h2 := itF_congr (step := stW b) (step' := stX) (fun w => w.length = 64) 48 16 _ (fun j s hj _ hs => by
    rw [stW, if_neg (by omega)]
    exact ⟨rfl, stX_len hs⟩) h1.2
  have h3 := itF_add (stW b) 16 48 0 (List.replicate 64 0)
  rw [show 64 = 16 + 48 from rfl, h3]
  rw [show (0 : Nat) + 16 = 16 from rfl]
  rw [h2.1, h1.1] at *
  exact ⟨rfl, h2.2⟩
theorem t7 : (7 : Int) ∈ Turns := by decide
theorem t18 : (18 : Int) ∈ Turns := by decide
theorem t17 : (17 : Int) ∈ Turns := by decide
theorem t19 : (19 : Int) ∈ Turns := by decide
theorem t6 : (6 : Int) ∈ Turns := by decide
theorem t11 : (11 : Int) ∈ Turns := by decide
theorem t25 : (25 : Int) ∈ Turns := by decide
theorem t2 : (2 : Int) ∈ Turns := by decide
theorem t13 : (13 : Int) ∈ Turns := by decide
theorem t22 : (22 : Int) ∈ Turns := by decide
theorem gSh_l {x : Int} (h : 0 ≤ x) {R : Type} (r : Option R) : grd (gSh x) r = r := grd_of (gSh_t h) r
theorem wordsOf_eq (b : List Int) (hb : IsBytes b) (hl : b.length = 64) : i_wordsOf (strL b) = some (wsOf b) := by
  unfold i_wordsOf i_wordsOf.F
  have key := it_loop (L := fun n i w => i_wordsOf.l1 (fun l w => some w) n (strL b) i (List.replicate 64 (0 : Int)) w) (N := 64) (step := stW b) (fin := fun w => some w) (fun w => w.length = 64) ?_ ?_ 64 fuel 0 (List.replicate 64 0) (by omega) (by rw [fuel_eq]; omega) (by simp)
  · rw [wsOf_eq b |>.1] at key
    exact key.1
  · intro n i w hi hw
    have hsz : (strL b).size = 64 := by rw [strL_size, hl]
    simp only [i_wordsOf.l1]
    rw [decide_t (by omega), ct]
    by_cases h16 : i < 16
    · have e4 : IntKind.wrap .i64 (4 * (i : Int)) = ((4 * i : Nat) : Int) := by rw [wr (by omega) (by omega)]; omega
      have e5 : IntKind.wrap .i64 (((4 * i : Nat) : Int) + 1) = ((4 * i + 1 : Nat) : Int) := by rw [wr (by omega) (by omega)]; omega
      have e6 : IntKind.wrap .i64 (((4 * i : Nat) : Int) + 2) = ((4 * i + 2 : Nat) : Int) := by rw [wr (by omega) (by omega)]; omega
      have e7 : IntKind.wrap .i64 (((4 * i : Nat) : Int) + 3) = ((4 * i + 3 : Nat) : Int) := by rw [wr (by omega) (by omega)]; omega
      rw [decide_t (by omega), ct, e4, e5, e6, e7, hsz, grd_of (gIx_t (by omega) (by omega)), gSh_l (by decide), grd_of (gIx_t (by omega) (by omega)), gSh_l (by decide), grd_of (gIx_t (by omega) (by omega)), gSh_l (by decide), grd_of (gIx_t (by omega) (by omega)), grd_of (gIx_t (by omega) (by omega))]
      rw [byteAt_strL hb (by omega) (by omega), byteAt_strL hb (by omega) (by omega), byteAt_strL hb (by omega) (by omega), byteAt_strL hb (by omega) (by omega), wr (x := (i : Int) + 1) (by omega) (by omega), show ((i : Int) + 1) = ((i + 1 : Nat) : Int) by omega]
      simp only [Int.toNat_natCast]
      rw [stW, if_pos h16]
      exact ⟨rfl, stA_len hw⟩
    · rw [decide_f (by omega), cf, wr (x := (i : Int) - 15) (by omega) (by omega), wr (x := (i : Int) - 2) (by omega) (by omega), wr (x := (i : Int) - 16) (by omega) (by omega), wr (x := (i : Int) - 7) (by omega) (by omega)]
      rw [show ((i : Int) - 15).toNat = i - 15 by omega, show ((i : Int) - 2).toNat = i - 2 by omega, show ((i : Int) - 16).toNat = i - 16 by omega, show ((i : Int) - 7).toNat = i - 7 by omega]
      rw [grd_of (gIx_t (by omega) (by omega)), grd_of (gIx_t (by omega) (by omega)), rot_i _ _ t7, bs, rot_i _ _ t18, bs, gSh_l (by decide), rot_i _ _ t17, bs, rot_i _ _ t19, bs, gSh_l (by decide), grd_of (gIx_t (by omega) (by omega)), grd_of (gIx_t (by omega) (by omega)), grd_of (gIx_t (by omega) (by omega)), wr (x := (i : Int) + 1) (by omega) (by omega), show ((i : Int) + 1) = ((i + 1 : Nat) : Int) by omega, Int.toNat_natCast]
      rw [stW, if_neg h16]
      exact ⟨rfl, stX_len hw⟩
  · intro n w hw
    simp only [i_wordsOf.l1]
    rw [decide_f (by omega), cf]
end Go.Proofs.YtdpjbeeokimnaaaA

/-
  SHA-256: a block taken into a state: the program's and the reference's. No condition.
-/
namespace Go.Proofs.YtdpjbeeokimnaaaA
open Go
set_option linter.unusedVariables false
set_option linter.unusedSimpArgs false

def rP (v k w : List Int) (i : Nat) : Int :=
  IntKind.wrap .u32 ((IntKind.wrap .u32 ((IntKind.wrap .u32 ((IntKind.wrap .u32 ((rdE k32 v 7) + (iXor .u32 (iXor .u32 (rot (rdE k32 v 4) 6) (rot (rdE k32 v 4) 11)) (rot (rdE k32 v 4) 25)))) + (iOr .u32 (iAnd .u32 (rdE k32 v 4) (rdE k32 v 5)) (iAnd .u32 (iXor .u32 (IntKind.max .u32) (rdE k32 v 4)) (rdE k32 v 6))))) + (rdE k32 k i))) + (rdE k32 w i))
def rQ (v : List Int) : Int :=
  IntKind.wrap .u32 ((iXor .u32 (iXor .u32 (rot (rdE k32 v 0) 2) (rot (rdE k32 v 0) 13)) (rot (rdE k32 v 0) 22)) + (iOr .u32 (iOr .u32 (iAnd .u32 (rdE k32 v 0) (rdE k32 v 1)) (iAnd .u32 (rdE k32 v 0) (rdE k32 v 2))) (iAnd .u32 (rdE k32 v 1) (rdE k32 v 2))))
def stV (k w : List Int) (i : Nat) (v : List Int) : List Int :=
  [IntKind.wrap .u32 (rP v k w i + rQ v), rdE k32 v 0, rdE k32 v 1, rdE k32 v 2, IntKind.wrap .u32 (rdE k32 v 3 + rP v k w i), rdE k32 v 4, rdE k32 v 5, rdE k32 v 6]
def rounds (h k b : List Int) : List Int := itF (stV k (wsOf b)) 0 64 h
def addW (h v : List Int) : List Int :=
  [IntKind.wrap .u32 (rdE k32 h 0 + rdE k32 v 0), IntKind.wrap .u32 (rdE k32 h 1 + rdE k32 v 1), IntKind.wrap .u32 (rdE k32 h 2 + rdE k32 v 2), IntKind.wrap .u32 (rdE k32 h 3 + rdE k32 v 3), IntKind.wrap .u32 (rdE k32 h 4 + rdE k32 v 4), IntKind.wrap .u32 (rdE k32 h 5 + rdE k32 v 5), IntKind.wrap .u32 (rdE k32 h 6 + rdE k32 v 6), IntKind.wrap .u32 (rdE k32 h 7 + rdE k32 v 7)]
/-- What a block makes of a state. -/
def blockF (h k b : List Int) : List Int := addW h (rounds h k b)
theorem eight {l : List Int} (h : l.length = 8) : ∃ a b c d e f g i, l = [a, b, c, d, e, f, g, i] := by
  match l, h with
  | [a, b, c, d, e, f, g, i], _ => exact ⟨_, _, _, _, _, _, _, _, rfl⟩
theorem fuel9 : ∃ q, fuel = q + 9 := ⟨fuel - 9, by rw [fuel_eq]⟩
theorem rounds_len {h k b : List Int} (hh : h.length = 8) : (rounds h k b).length = 8 := (itF_congr (step := stV k (wsOf b)) (step' := stV k (wsOf b)) (fun v => v.length = 8) 64 0 h (fun _ _ _ _ _ => ⟨rfl, rfl⟩) hh).2
theorem blockHash_eq (h k b : List Int) (hb : IsBytes b) (hh : h.length = 8) (hk : k.length = 64) (hl : b.length = 64) : i_blockHash h k (strL b) = some (blockF h k b) := by
  rw [i_blockHash_eq]
  unfold i_blockHash.F
  rw [wordsOf_eq b hb hl, bs]
  have hw := (wsOf_eq b).2
  have key := it_loop (L := fun n i v => i_blockHash.l1 (fun words1 l v => i_blockHash.l2 (fun l1 v1 => some v1) fuel (0 : Int) words1 l v) n i h k (List.replicate 8 (0 : Int)) v (wsOf b)) (N := 64) (step := stV k (wsOf b)) (fin := fun v => i_blockHash.l2 (fun l1 v1 => some v1) fuel (0 : Int) h (List.replicate 8 (0 : Int)) v) (fun v => v.length = 8) ?_ ?_ 64 fuel 0 h (by omega) (by rw [fuel_eq]; omega) hh
  · obtain ⟨h1, h2⟩ := key
    refine h1.trans ?_
    show i_blockHash.l2 (fun l1 v1 => some v1) fuel (0 : Int) h (List.replicate 8 (0 : Int)) (rounds h k b) = some (addW h (rounds h k b))
    obtain ⟨a0, a1, a2, a3, a4, a5, a6, a7, hv⟩ := eight (rounds_len (k := k) (b := b) hh)
    obtain ⟨b0, b1, b2, b3, b4, b5, b6, b7, rfl⟩ := eight hh
    rw [hv]
    obtain ⟨q, hq⟩ := fuel9
    rw [hq]
    simp only [i_blockHash.l2]
    have c : ∀ a b : Int, IntKind.wrap .u32 (a + b) = IntKind.wrap .u32 (b + a) := fun a b => by rw [Int.add_comm]
    show some [IntKind.wrap .u32 (a0 + b0), IntKind.wrap .u32 (a1 + b1), IntKind.wrap .u32 (a2 + b2), IntKind.wrap .u32 (a3 + b3), IntKind.wrap .u32 (a4 + b4), IntKind.wrap .u32 (a5 + b5), IntKind.wrap .u32 (a6 + b6), IntKind.wrap .u32 (a7 + b7)] = some [IntKind.wrap .u32 (b0 + a0), IntKind.wrap .u32 (b1 + a1), IntKind.wrap .u32 (b2 + a2), IntKind.wrap .u32 (b3 + a3), IntKind.wrap .u32 (b4 + a4), IntKind.wrap .u32 (b5 + a5), IntKind.wrap .u32 (b6 + a6), IntKind.wrap .u32 (b7 + a7)]
    rw [c a0, c a1, c a2, c a3, c a4, c a5, c a6, c a7]
  · intro n i v hi hv
    simp only [i_blockHash.l1]
    rw [decide_t (by omega), ct]
    rw [grd_of (gIx_t (by omega) (by omega)), grd_of (gIx_t (by omega) (by omega)), grd_of (gIx_t (by omega) (by omega)), grd_of (gIx_t (by omega) (by omega)), grd_of (gIx_t (by omega) (by omega)), grd_of (gIx_t (by omega) (by omega)), grd_of (gIx_t (by omega) (by omega))]
    rw [rot_i _ _ t6, bs, rot_i _ _ t11, bs, rot_i _ _ t25, bs, grd_of (gIx_t (by omega) (by omega)), grd_of (gIx_t (by omega) (by omega)), rot_i _ _ t2, bs, rot_i _ _ t13, bs, rot_i _ _ t22, bs, grd_of (gIx_t (by omega) (by omega)), wr (x := (i : Int) + 1) (by omega) (by omega), show ((i : Int) + 1) = ((i + 1 : Nat) : Int) by omega, Int.toNat_natCast]
    exact ⟨rfl, rfl⟩
  · intro n v hv
    simp only [i_blockHash.l1]
    rw [decide_f (by omega), cf]
theorem block_s (h b k : List Int) (hb : IsBytes b) (hh : h.length = 8) (hk : k.length = 64) (hl : b.length = 64) : s_l01Block h b k = some (blockF h k b) := by
  rw [s_l01Block_eq]
  unfold s_l01Block.F
  rw [grd_of (gMk_t (by decide) (by decide) (by decide))]
  have l1 := fun (kke : List Int → List Int → List Int → Option (List Int)) => it_loop (L := fun n i w => s_l01Block.l1 kke n b k i h w) (N := 16) (step := stA b) (fin := fun w => kke k h w) (fun w => w.length = 64) (by
    intro n i w hi hw
    have hw' : List.length (α := El k32) w = 64 := hw
    have e4 : IntKind.wrap .i64 (4 * (i : Int)) = ((4 * i : Nat) : Int) := by rw [wr (by omega) (by omega)]; omega
    have e5 : IntKind.wrap .i64 (((4 * i : Nat) : Int) + 1) = ((4 * i + 1 : Nat) : Int) := by rw [wr (by omega) (by omega)]; omega
    have e6 : IntKind.wrap .i64 (((4 * i : Nat) : Int) + 2) = ((4 * i + 2 : Nat) : Int) := by rw [wr (by omega) (by omega)]; omega
    have e7 : IntKind.wrap .i64 (((4 * i : Nat) : Int) + 3) = ((4 * i + 3 : Nat) : Int) := by rw [wr (by omega) (by omega)]; omega
    simp only [s_l01Block.l1]
    rw [decide_t (by omega), ct, e4, e5, e6, e7, grd_of (gIx_t (by omega) (by omega)), gSh_l (by decide), grd_of (gIx_t (by omega) (by omega)), gSh_l (by decide), grd_of (gIx_t (by omega) (by omega)), gSh_l (by decide), grd_of (gIx_t (by omega) (by omega)), grd_of (gIx_t (by omega) (by omega)), wr (x := (i : Int) + 1) (by omega) (by omega), show ((i : Int) + 1) = ((i + 1 : Nat) : Int) by omega]
    simp only [Int.toNat_natCast]
    exact ⟨rfl, stA_len hw⟩) (by
    intro n w hw
    simp only [s_l01Block.l1]
    rw [decide_f (by omega), cf]) 16 fuel 0 (List.replicate 64 0) (by omega) (by rw [fuel_eq]; omega) (by simp)
  have l2 := fun (kke : List Int → List Int → List Int → Option (List Int)) (w0 : List Int) (h0 : w0.length = 64) => it_loop (L := fun n j w => s_l01Block.l2 kke n k (j + 16) h w) (N := 48) (step := fun j w => stX (j + 16) w) (fin := fun w => kke k h w) (fun w => w.length = 64) (by
    intro n j w hj hw
    have hw' : List.length (α := El k32) w = 64 := hw
    obtain ⟨i, hi⟩ : ∃ i, i = j + 16 := ⟨_, rfl⟩
    rw [show ((j : Int) + 16) = (i : Int) by omega, show (((j + 1 : Nat) : Int) + 16) = ((i + 1 : Nat) : Int) by omega, ← hi]
    simp only [s_l01Block.l2]
    rw [decide_t (by omega), ct, wr (x := (i : Int) - 15) (by omega) (by omega), wr (x := (i : Int) - 2) (by omega) (by omega), wr (x := (i : Int) - 16) (by omega) (by omega), wr (x := (i : Int) - 7) (by omega) (by omega)]
    rw [show ((i : Int) - 15).toNat = i - 15 by omega, show ((i : Int) - 2).toNat = i - 2 by omega, show ((i : Int) - 16).toNat = i - 16 by omega, show ((i : Int) - 7).toNat = i - 7 by omega]
    rw [grd_of (gIx_t (by omega) (by omega)), grd_of (gIx_t (by omega) (by omega)), grd_of (gIx_t (by omega) (by omega)), rot_s _ _ t7, bs, rot_s _ _ t18, bs, gSh_l (by decide), grd_of (gIx_t (by omega) (by omega)), rot_s _ _ t17, bs, rot_s _ _ t19, bs, gSh_l (by decide), grd_of (gIx_t (by omega) (by omega)), wr (x := (i : Int) + 1) (by omega) (by omega), show ((i : Int) + 1) = ((i + 1 : Nat) : Int) by omega, Int.toNat_natCast]
    exact ⟨rfl, stX_len hw⟩) (by
    intro n w hw
    simp only [s_l01Block.l2]
    rw [decide_f (by omega), cf]) 48 fuel 0 w0 (by omega) (by rw [fuel_eq]; omega) h0
  have l3 := fun (kke : List Int → List Int → Option (List Int)) (w : List Int) (hw : w.length = 64) => it_loop (L := fun n i v => s_l01Block.l3 kke n k i h w v) (N := 64) (step := stV k w) (fin := fun v => kke h v) (fun v => v.length = 8) (by
    intro n i v hi hv
    have hw' : List.length (α := El k32) w = 64 := hw
    have hv' : List.length (α := El k32) v = 8 := hv
    have hk' : List.length (α := El k32) k = 64 := hk
    simp only [s_l01Block.l3]
    rw [decide_t (by omega), ct]
    rw [grd_of (gIx_t (by omega) (by omega)), grd_of (gIx_t (by omega) (by omega)), grd_of (gIx_t (by omega) (by omega)), rot_s _ _ t6, bs, rot_s _ _ t11, bs, rot_s _ _ t25, bs]
    rw [grd_of (gIx_t (by omega) (by omega)), grd_of (gIx_t (by omega) (by omega)), grd_of (gIx_t (by omega) (by omega)), grd_of (gIx_t (by omega) (by omega)), rot_s _ _ t2, bs, rot_s _ _ t13, bs, rot_s _ _ t22, bs]
    repeat rw [grd_of (gIx_t (by omega) (by omega))]
    rw [wr (x := (i : Int) + 1) (by omega) (by omega), show ((i : Int) + 1) = ((i + 1 : Nat) : Int) by omega, Int.toNat_natCast]
    simp only [ch32, maj32]
    exact ⟨rfl, rfl⟩) (by
    intro n v hv
    simp only [s_l01Block.l3]
    rw [decide_f (by omega), cf]) 64 fuel 0 h (by omega) (by rw [fuel_eq]; omega) hh
  have sh := fun (m i : Nat) (w : List Int) => show itF (fun j w => stX (j + 16) w) i m w = itF stX (i + 16) m w by
    induction m generalizing i w with
    | zero => rfl
    | succ m ih =>
      show itF (fun j w => stX (j + 16) w) (i + 1) m (stX (i + 16) w) = itF stX (i + 16 + 1) m (stX (i + 16) w)
      rw [ih, show i + 1 + 16 = i + 16 + 1 by omega]
  have hlen := (wsOf_eq b).2
  refine (l1 _).1.trans ?_
  have e2 := (l2 (fun k_2 h2 w1 => grd (gRm (((List.length ([] : List Int)) + (List.length h2)) * 4)) <| s_l01Block.l3 (fun h3 v => s_l01Block.l4 (fun h4 => some h4) fuel (0 : Int) h3 v) fuel k_2 (0 : Int) h2 w1 (([] : List Int) ++ h2)) _ (l1 (fun _ _ w => some w)).2).1
  rw [sh] at e2
  refine e2.trans ?_
  show grd (gRm (((List.length ([] : List Int)) + (List.length h)) * 4)) (s_l01Block.l3 (fun h3 v => s_l01Block.l4 (fun h4 => some h4) fuel (0 : Int) h3 v) fuel k (0 : Int) h (wsOf b) (([] : List Int) ++ h)) = _
  rw [grd_of (gRm_t (by simp; omega)), List.nil_append]
  refine (l3 _ (wsOf b) hlen).1.trans ?_
  show s_l01Block.l4 (fun h4 => some h4) fuel (0 : Int) h (rounds h k b) = some (addW h (rounds h k b))
  obtain ⟨a0, a1, a2, a3, a4, a5, a6, a7, hv⟩ := eight (rounds_len (k := k) (b := b) hh)
  obtain ⟨b0, b1, b2, b3, b4, b5, b6, b7, rfl⟩ := eight hh
  rw [hv]
  obtain ⟨q, hq⟩ := fuel9
  rw [hq]
  rfl
theorem blockF_len (h k b : List Int) : (blockF h k b).length = 8 := rfl
/-- Each word below 2^32. -/
def IsWords (l : List Int) : Prop := ∀ x ∈ l, 0 ≤ x ∧ x < 4294967296
theorem blockF_words (h k b : List Int) : IsWords (blockF h k b) := by
  intro x hx
  have : ∃ y, x = IntKind.wrap .u32 y := by
    unfold blockF addW at hx
    simp only [List.mem_cons, List.mem_nil_iff, or_false] at hx
    rcases hx with rfl | rfl | rfl | rfl | rfl | rfl | rfl | rfl <;> exact ⟨_, rfl⟩
  obtain ⟨y, rfl⟩ := this
  rw [wr32m]
  omega
end Go.Proofs.YtdpjbeeokimnaaaA

/-
  Readers of bytes: what the program's and the reference's take. No condition.
-/
namespace Go.Proofs.YtdpjbeeokimnaaaA
open Go
set_option linter.unusedVariables false
set_option linter.unusedSimpArgs false

/-! ### The reference's reader -/
end Go.Proofs.YtdpjbeeokimnaaaA

/-
  Searches along a row, for any of the printed loops that go so. No condition.
-/
namespace Go.Proofs.YtdpjbeeokimnaaaA
open Go
set_option linter.unusedVariables false
set_option linter.unusedSimpArgs false

/-- The first of which q holds, from j on. -/
theorem find_loop {k : Kd} {R : Type} {L : Nat → List (El k) → Int → Int → Option R} {f : El k → Option (Bool × Unit)} {kke : Option R} {kkr : Int → Option R}
    (hL : ∀ n s i j, L (n + 1) s i j = cond (decide (j < i)) (grd (gIx j (List.length s)) ((f (rdE k s (Int.toNat j))).bind fun r => cond r.1 (kkr j) (L n s i (IntKind.wrap .i64 (j + 1))))) kke)
    {q : El k → Bool} {l : List (El k)} (hl : l.length ≤ 9223372036854775806) (hf : ∀ x ∈ l, f x = some (q x, ())) :
    ∀ (m n j : Nat), j + m = l.length → m < n → L n l l.length j = match (l.drop j).findIdx? q with | none => kke | some d => kkr ((j + d : Nat) : Int)
  | 0, n + 1, j, e, _ => by
    rw [hL, decide_f (by omega : ¬ (j : Int) < l.length), cond_false, List.drop_of_length_le (by omega)]
    rfl
  | m + 1, n + 1, j, e, h => by
    have hj : j < l.length := by omega
    rw [hL, decide_t (by omega : (j : Int) < l.length), cond_true, grd_of (gIx_t (by omega) (by omega)), Int.toNat_natCast, rdE_at hj, hf _ (List.getElem_mem hj), Option.bind_some, drop_cons hj, List.findIdx?_cons]
    cases hq : q l[j] with
    | true => simp
    | false =>
      simp only [cond_false, Bool.false_eq_true, if_false]
      rw [wr (by omega) (by omega), show ((j : Int) + 1) = ((j + 1 : Nat) : Int) by omega, find_loop hL hl hf m n (j + 1) (by omega) (by omega)]
      cases (l.drop (j + 1)).findIdx? q with
      | none => rfl
      | some d => simp only [Option.map_some]; congr 1; omega
theorem findIdx_any {α : Type} (l : List α) (q : α → Bool) : (l.findIdx? q).isSome = l.any q := by
  induction l with
  | nil => rfl
  | cons x l ih =>
    rw [List.findIdx?_cons, List.any_cons]
    cases q x with
    | true => simp
    | false => simp [ih]
end Go.Proofs.YtdpjbeeokimnaaaA

/-
  Members of a group, read from bytes: the program's and the reference's test agree. No condition.
-/
namespace Go.Proofs.YtdpjbeeokimnaaaA
open Go
set_option linter.unusedVariables false
set_option linter.unusedSimpArgs false

end Go.Proofs.YtdpjbeeokimnaaaA

/-
  Commands and entries in bytes: the program's and the reference's. No condition.
-/
namespace Go.Proofs.YtdpjbeeokimnaaaA
open Go
set_option linter.unusedVariables false
set_option linter.unusedSimpArgs false

/-! ### Bytes of commands -/
theorem beL4 (n : Int) : beL n 4 = [n / 16777216 % 256, n / 65536 % 256, n / 256 % 256, n % 256] := by
  show [n / 256 / 256 / 256 % 256, n / 256 / 256 % 256, n / 256 % 256, n % 256] = _
  rw [show n / 256 / 256 / 256 = n / 16777216 by omega, show n / 256 / 256 = n / 65536 by omega]
theorem number4 (x : Int) : i_number x 4 = some (strL (beL x 4)) := number_eq x 4 (by omega)
/-! ### Commands read -/
theorem IsBytes.tail {a : Int} {l : List Int} (h : IsBytes (a :: l)) : IsBytes l := fun y hy => h y (List.mem_cons_of_mem _ hy)
end Go.Proofs.YtdpjbeeokimnaaaA

/-
  SHA-256: the program's hash is the reference's. No condition.
-/
namespace Go.Proofs.YtdpjbeeokimnaaaA
open Go
set_option linter.unusedVariables false
set_option linter.unusedSimpArgs false

def kK : List Int := (s_l01Consts).getD []
theorem consts_eq : s_l01Consts = some kK := rfl
theorem roundWords_eq : i_roundWords = some kK := by rw [i_roundWords_eq]; rfl
def kH : List Int := [1779033703, 3144134277, 1013904242, 2773480762, 1359893119, 2600822924, 528734635, 1541459225]
theorem hashWords_eq : i_hashWords = some kH := by rw [i_hashWords_eq]; rfl
theorem kK_len : kK.length = 64 := by decide
theorem kH_len : kH.length = 8 := by decide
theorem kH_words : IsWords kH := by
  intro x hx
  simp only [kH, List.mem_cons, List.mem_nil_iff, or_false] at hx
  omega
theorem it_loopI {R S : Type} {L : Nat → Int → S → Option R} {N : Nat} {step : Nat → S → S} {fin : S → Option R} (Inv : Nat → S → Prop)
    (hs : ∀ n i s, i < N → Inv i s → L (n + 1) (i : Int) s = L n ((i + 1 : Nat) : Int) (step i s) ∧ Inv (i + 1) (step i s)) (h0 : ∀ n s, Inv N s → L (n + 1) (N : Int) s = fin s) :
    ∀ (m n i : Nat) (s : S), i + m = N → m < n → Inv i s → L n i s = fin (itF step i m s) ∧ Inv N (itF step i m s)
  | 0, n + 1, i, s, e, _, hi => by
    have : i = N := by omega
    subst this
    exact ⟨h0 n s hi, hi⟩
  | m + 1, n + 1, i, s, e, hn, hi => by
    obtain ⟨h1, h2⟩ := hs n i s (by omega) hi
    rw [h1]
    exact it_loopI Inv hs h0 m n (i + 1) _ (by omega) (by omega) h2
/-- How many zeros. -/
def padZ (n : Nat) : Nat := (119 - n % 64) % 64
def padded (l : List Int) : List Int := ((l ++ [128]) ++ List.replicate (padZ l.length) 0) ++ beL (8 * (l.length : Int)) 8
theorem padded_len (l : List Int) : (padded l).length = 64 * ((l.length + 72) / 64) := by
  simp only [padded, List.length_append, List.length_singleton, List.length_replicate, beL_length, padZ]
  omega
theorem padded_bytes {l : List Int} (h : IsBytes l) : IsBytes (padded l) := by
  refine ((h.append (IsBytes.cons (by decide) (by decide) IsBytes.nil)).append fun y hy => ?_).append (beL_bytes _ _)
  rw [List.eq_of_mem_replicate hy]
  decide
def stH (all : List Int) (j : Nat) (h : List Int) : List Int := blockF h kK ((all.drop (64 * j)).take 64)
def stO (h : List Int) (i : Nat) (out : List Int) : List Int := out ++ beL (rdE k32 h i) 4
def shaO (h : List Int) : List Int := itF (stO h) 0 8 []
/-- THE HASH. -/
def sha (l : List Int) : List Int := shaO (itF (stH (padded l)) 0 ((l.length + 72) / 64) kH)
theorem shaO_eq (h : List Int) : shaO h = beL (rdE k32 h 0) 4 ++ beL (rdE k32 h 1) 4 ++ beL (rdE k32 h 2) 4 ++ beL (rdE k32 h 3) 4 ++ beL (rdE k32 h 4) 4 ++ beL (rdE k32 h 5) 4 ++ beL (rdE k32 h 6) 4 ++ beL (rdE k32 h 7) 4 := by
  simp only [shaO, itF, stO, List.nil_append]
theorem sha_len (l : List Int) : (sha l).length = 32 := by
  rw [sha, shaO_eq]
  simp only [List.length_append, beL_length]
def HOk (h : List Int) : Prop := h.length = 8 ∧ IsWords h
theorem sub_block (all : List Int) (j : Nat) : sub all (64 * (j : Int)) (64 * (j : Int) + 64) = (all.drop (64 * j)).take 64 := by
  unfold sub
  rw [show (64 * (j : Int) + 64).toNat = 64 * j + 64 by omega, show (64 * (j : Int)).toNat = 64 * j by omega, List.drop_take, show 64 * j + 64 - 64 * j = 64 by omega]
theorem repeat_eq (z : Nat) (hz : z ≤ 100) : strings_Repeat (⟨#[0]⟩ : ByteArray) (z : Int) = some (strL (List.replicate z 0)) := by
  rw [strings_Repeat_eq]
  unfold strings_Repeat.F
  rw [grd_of (by
    rw [gRep_eq]
    have : ByteArray.size (⟨#[0]⟩ : ByteArray) = 1 := rfl
    exact decide_eq_true ⟨by omega, by omega, by rw [this]; omega⟩), repS_eq, Int.toNat_natCast]
  congr 1
  apply ba_ext
  rw [strL_list]
  show (Lib.repeatL [(0 : UInt8)] z).toArray.toList = _
  rw [List.map_replicate]
  clear hz
  show Lib.repeatL [(0 : UInt8)] z = List.replicate z (UInt8.ofNat (0 : Int).toNat)
  induction z with
  | zero => rfl
  | succ z ih =>
    rw [List.replicate_succ, ← ih]
    rfl
theorem byte4 {x : Int} (h0 : 0 ≤ x) (h1 : x < 4294967296) : [IntKind.wrap .u8 (iShr .u32 x 24), IntKind.wrap .u8 (iShr .u32 x 16), IntKind.wrap .u8 (iShr .u32 x 8), IntKind.wrap .u8 x] = beL x 4 := by
  have e : ∀ n : Int, 0 ≤ n → n ≤ 32 → iShr .u32 x n = x / 2 ^ n.toNat := fun n hn hn' => by
    unfold iShr
    rw [show min n.toNat (IntKind.bits .u32) = n.toNat by simp [IntKind.bits]; omega]
    rw [Int.fdiv_eq_ediv_of_nonneg]
    exact Int.pow_nonneg (by decide)
  rw [e 24 (by decide) (by decide), e 16 (by decide) (by decide), e 8 (by decide) (by decide), beL4]
  simp only [wr8m]
  rfl
theorem hash_i (l : List Int) (hb : IsBytes l) (hl : l.length ≤ 1000000000000) : i_hash (strL l) = some (strL (sha l)) := by
  rw [i_hash_eq]
  unfold i_hash.F
  have h128 : (⟨#[128]⟩ : ByteArray) = strL [128] := rfl
  have ez : Int.tmod (IntKind.wrap .i64 ((119 : Int) - Int.tmod (l.length : Int) 64)) 64 = (padZ l.length : Nat) := by
    rw [tmod_pos (x := (l.length : Int)) (by omega), wr (by omega) (by omega), tmod_pos (by omega)]
    unfold padZ
    omega
  rw [h128, grd_of (gCat_t (by rw [strL_size, strL_size]; simp; omega)), grd_of (gNz_t (by decide)), grd_of (gNz_t (by decide)), strL_size, ez, repeat_eq _ (by unfold padZ; omega), bs, strL_append]
  rw [grd_of (gCat_t (by rw [strL_size, strL_size]; simp [padZ]; omega)), wr (by omega) (by omega)]
  have hn := number_eq (8 * (l.length : Int)) 8 (by decide)
  rw [show (((8 : Nat) : Int)) = 8 from rfl] at hn
  rw [hn, bs, strL_append, grd_of (gCat_t (by rw [strL_size, strL_size]; simp [padZ, beL_length]; omega)), strL_append, hashWords_eq, bs, roundWords_eq, bs]
  show i_hash.l1 (fun words => i_hash.l2 (fun out => some out) fuel ByteArray.empty words (0 : Int)) fuel (strL (padded l)) (0 : Int) kH kK = _
  have hpl := padded_len l
  have hpb := padded_bytes hb
  have key := it_loop (L := fun n j h => i_hash.l1 (fun words => i_hash.l2 (fun out => some out) fuel ByteArray.empty words (0 : Int)) n (strL (padded l)) (64 * j) h kK) (N := (l.length + 72) / 64) (step := stH (padded l)) (fin := fun h => i_hash.l2 (fun out => some out) fuel ByteArray.empty h (0 : Int)) HOk ?_ ?_ ((l.length + 72) / 64) fuel 0 kH (by omega) (by rw [fuel_eq]; omega) ⟨kH_len, kH_words⟩
  · obtain ⟨h1, h2⟩ := key
    refine h1.trans ?_
    rw [sha]
    obtain ⟨hh, hhd⟩ : ∃ hh, hh = itF (stH (padded l)) 0 ((l.length + 72) / 64) kH := ⟨_, rfl⟩
    rw [← hhd] at h2 ⊢
    have k2 := it_loopI (L := fun n i out => i_hash.l2 (fun out => some out) n (strL out) hh i) (N := 8) (step := stO hh) (fin := fun out => some (strL out)) (fun i out => out.length = 4 * i) ?_ ?_ 8 fuel 0 [] (by omega) (by rw [fuel_eq]; omega) (by simp)
    · exact k2.1
    · intro n i out hi ho
      have hw := h2.2 _ (List.getElem_mem (show i < hh.length by rw [h2.1]; exact hi))
      simp only [i_hash.l2]
      rw [decide_t (by omega), ct, grd_of (gIx_t (by omega) (by omega)), Int.toNat_natCast, rdE_at (k := k32) (show i < hh.length by rw [h2.1]; exact hi), wr (by omega) (by omega), number4, bs, grd_of (gCat_t (by rw [strL_size, strL_size, beL_length]; omega)), strL_append, wr (by omega) (by omega), show ((i : Int) + 1) = ((i + 1 : Nat) : Int) by omega]
      refine ⟨?_, ?_⟩
      · rw [stO, rdE_at (k := k32) (show i < hh.length by rw [h2.1]; exact hi)]
      · simp only [stO, List.length_append, beL_length]
        omega
    · intro n out ho
      simp only [i_hash.l2]
      rw [decide_f (by omega), cf]
  · intro n j h hj hh
    have hj' : 64 * j + 64 ≤ (padded l).length := by rw [hpl]; omega
    have hpl' : (padded l).length ≤ 1000000000100 := by rw [hpl]; omega
    simp only [i_hash.l1]
    rw [strL_size, decide_t (by omega), ct, wr (by omega) (by omega), grd_of (gSl_t (by omega) (by omega) (by omega)), cut_strL, sub_block, blockHash_eq h kK _ ((hpb.drop _).take _) hh.1 kK_len (by simp; omega), bs, show (64 * (j : Int) + 64) = 64 * ((j + 1 : Nat) : Int) by omega]
    exact ⟨rfl, blockF_len _ _ _, blockF_words _ _ _⟩
  · intro n h hh
    simp only [i_hash.l1]
    rw [strL_size, hpl, decide_f (by omega), cf]
theorem pad_s (kke : List Int → List Int → List Int → Option ByteArray) (b h : List Int) : ∀ (m n : Nat) (acc : List Int), m < n → m < 64 → (acc.length + m) % 64 = 56 → acc.length + m ≤ 1000000001000 → s_l01Hash.l1 kke n b h acc = kke b h (acc ++ List.replicate m 0)
  | 0, n + 1, acc, _, _, e, hl => by
    simp only [s_l01Hash.l1]
    rw [grd_of (gNz_t (by decide)), tmod_pos (by omega), show ((((acc.length : Nat) : Int) % 64) != 56) = false from bne_eq_false_iff_eq.2 (by omega), cf]
    simp
  | m + 1, n + 1, acc, hn, hm, e, hl => by
    simp only [s_l01Hash.l1]
    rw [grd_of (gNz_t (by decide)), tmod_pos (by omega), show (((acc.length : Int) % 64) != 56) = true by simp; omega, ct, grd_of (gRm_t (by simp; omega))]
    rw [pad_s kke b h m n (acc ++ [0]) (by omega) (by omega) (by simp; omega) (by simp; omega), List.append_assoc]
    rfl
theorem len8 (x : Int) (acc : List Int) : itF (fun (j : Nat) (acc : List Int) => acc ++ [x / 2 ^ (8 * (7 - j)) % 256]) 0 8 acc = acc ++ beL x 8 := by
  simp only [itF, List.append_assoc]
  congr 1
  show [x / 2 ^ 56 % 256, x / 2 ^ 48 % 256, x / 2 ^ 40 % 256, x / 2 ^ 32 % 256, x / 2 ^ 24 % 256, x / 2 ^ 16 % 256, x / 2 ^ 8 % 256, x / 2 ^ 0 % 256] = [x / 256 / 256 / 256 / 256 / 256 / 256 / 256 % 256, x / 256 / 256 / 256 / 256 / 256 / 256 % 256, x / 256 / 256 / 256 / 256 / 256 % 256, x / 256 / 256 / 256 / 256 % 256, x / 256 / 256 / 256 % 256, x / 256 / 256 % 256, x / 256 % 256, x % 256]
  have e : ∀ k : Nat, (2 : Int) ^ k = 2 ^ k := fun _ => rfl
  rw [show (2 : Int) ^ 56 = 72057594037927936 by decide, show (2 : Int) ^ 48 = 281474976710656 by decide, show (2 : Int) ^ 40 = 1099511627776 by decide, show (2 : Int) ^ 32 = 4294967296 by decide, show (2 : Int) ^ 24 = 16777216 by decide, show (2 : Int) ^ 16 = 65536 by decide, show (2 : Int) ^ 8 = 256 by decide, show (2 : Int) ^ 0 = 1 by decide]
  simp only [Int.ediv_ediv_of_nonneg (show (0 : Int) ≤ 256 by decide), Int.ediv_one]
  simp
  omega
theorem hash_s (l : List Int) (hb : IsBytes l) (hl : l.length ≤ 1000000000000) : s_l01Hash l = some (strL (sha l)) := by
  rw [s_l01Hash_eq]
  unfold s_l01Hash.F
  rw [grd_of (gRm_t (by simp; omega)), grd_of (gRm_t (by simp; omega)), List.nil_append]
  rw [pad_s _ l _ (padZ l.length) fuel (l ++ [128]) (by rw [fuel_eq]; unfold padZ; omega) (by unfold padZ; omega) (by simp [padZ]; omega) (by simp [padZ]; omega)]
  have hpl := padded_len l
  have hpb := padded_bytes hb
  have e8 : IntKind.wrap .i64 (8 * (l.length : Int)) = 8 * (l.length : Int) := wr (by omega) (by omega)
  have key := fun (kke : List Int → List Int → Option ByteArray) => it_loopI (L := fun n j all => s_l01Hash.l2 kke n l (7 - j) kH all) (N := 8) (step := fun (j : Nat) (acc : List Int) => acc ++ [8 * (l.length : Int) / 2 ^ (8 * (7 - j)) % 256]) (fin := fun all => kke kH all) (fun i out => out.length ≤ 1000000001000 + i) (by
    intro n j acc hj ha
    have es : IntKind.wrap .u64 (IntKind.wrap .i64 (8 * (7 - (j : Int)))) = ((8 * (7 - j) : Nat) : Int) := by
      rw [wr (by omega) (by omega)]
      simp only [IntKind.wrap, IntKind.signed, IntKind.bits]
      simp
      omega
    simp only [s_l01Hash.l2]
    rw [decide_t (by omega), ct, es, grd_of (gSh_t (by omega)), grd_of (gRm_t (by simp; omega)), e8, shr_eq (by omega) (by omega), Int.toNat_natCast, wr8m, wr (by omega) (by omega), show (7 - (j : Int) - 1) = 7 - ((j + 1 : Nat) : Int) by omega]
    exact ⟨rfl, by simp; omega⟩) (by
    intro n acc ha
    simp only [s_l01Hash.l2]
    rw [decide_f (by omega), cf]) 8 fuel 0 ((l ++ [128]) ++ List.replicate (padZ l.length) 0) (by omega) (by rw [fuel_eq]; omega) (by simp [padZ]; omega)
  refine (key _).1.trans ?_
  rw [len8]
  show (s_l01Consts).bind (fun r => s_l01Hash.l3 (fun h2 => s_l01Hash.l4 (fun out => some (strL out)) fuel (0 : Int) h2 ([] : List Int)) fuel (padded l) (0 : Int) kH r) = _
  rw [consts_eq, bs]
  have k3 := it_loop (L := fun n j h => s_l01Hash.l3 (fun h2 => s_l01Hash.l4 (fun out => some (strL out)) fuel (0 : Int) h2 ([] : List Int)) n (padded l) (64 * j) h kK) (N := (l.length + 72) / 64) (step := stH (padded l)) (fin := fun h => s_l01Hash.l4 (fun out => some (strL out)) fuel (0 : Int) h ([] : List Int)) HOk ?_ ?_ ((l.length + 72) / 64) fuel 0 kH (by omega) (by rw [fuel_eq]; omega) ⟨kH_len, kH_words⟩
  · obtain ⟨h1, h2⟩ := k3
    refine h1.trans ?_
    rw [sha]
    obtain ⟨hh, hhd⟩ : ∃ hh, hh = itF (stH (padded l)) 0 ((l.length + 72) / 64) kH := ⟨_, rfl⟩
    rw [← hhd] at h2 ⊢
    have k2 := it_loopI (L := fun n i out => s_l01Hash.l4 (fun out => some (strL out)) n i hh out) (N := 8) (step := stO hh) (fin := fun out => some (strL out)) (fun i out => out.length = 4 * i) ?_ ?_ 8 fuel 0 [] (by omega) (by rw [fuel_eq]; omega) (by simp)
    · exact k2.1
    · intro n i out hi ho
      have hil : i < hh.length := by rw [h2.1]; exact hi
      have hil' : (i : Int) < (List.length (α := El k32) hh : Int) := by have : List.length (α := El k32) hh = 8 := h2.1; omega
      have hw := h2.2 _ (List.getElem_mem hil)
      simp only [s_l01Hash.l4]
      rw [decide_t (by omega), ct, grd_of (gIx_t (by omega) hil'), gSh_l (by decide), grd_of (gIx_t (by omega) hil'), gSh_l (by decide), grd_of (gIx_t (by omega) hil'), gSh_l (by decide), grd_of (gIx_t (by omega) hil'), grd_of (gRm_t (by simp; omega)), Int.toNat_natCast, rdE_at (k := k32) hil, byte4 hw.1 hw.2, wr (by omega) (by omega), show ((i : Int) + 1) = ((i + 1 : Nat) : Int) by omega]
      refine ⟨?_, ?_⟩
      · rw [stO, rdE_at (k := k32) hil]
      · simp only [stO, List.length_append, beL_length]
        omega
    · intro n out ho
      simp only [s_l01Hash.l4]
      rw [decide_f (by omega), cf]
  · intro n j h hj hh
    have hj' : 64 * j + 64 ≤ (padded l).length := by rw [hpl]; omega
    have hpl' : (padded l).length ≤ 1000000000100 := by rw [hpl]; omega
    simp only [s_l01Hash.l3]
    rw [decide_t (by omega), ct, wr (by omega) (by omega), grd_of (gSl_t (by omega) (by omega) (by omega)), sub_block, block_s h _ kK ((hpb.drop _).take _) hh.1 kK_len (by simp; omega), bs, show (64 * (j : Int) + 64) = 64 * ((j + 1 : Nat) : Int) by omega]
    exact ⟨rfl, blockF_len _ _ _, blockF_words _ _ _⟩
  · intro n h hh
    simp only [s_l01Hash.l3]
    rw [hpl, decide_f (by omega), cf]
end Go.Proofs.YtdpjbeeokimnaaaA

/-
  Loops of the laws' helpers: rows copied, held against each other, measured, marked. No condition.
-/
namespace Go.Proofs.YtdpjbeeokimnaaaA
open Go
set_option linter.unusedVariables false
set_option linter.unusedSimpArgs false

theorem fuel_big {n : Nat} (h : n < 18446744073709551616) : n < fuel := by rw [fuel_eq]; exact h
theorem setE_eq {k : Kd} (xs : List (El k)) (i : Nat) (e : El k) : setE k xs i e = xs.set i e := rfl
theorem setE_length {k : Kd} (xs : List (El k)) (i : Nat) (e : El k) : (setE k xs i e).length = xs.length := by simp [setE]
end Go.Proofs.YtdpjbeeokimnaaaA

/-
  Ways up a tree of hashes: the program's prover and the reference's. No condition.
-/
namespace Go.Proofs.YtdpjbeeokimnaaaA
open Go
set_option linter.unusedVariables false
set_option linter.unusedSimpArgs false

def nodeL (a b : ByteArray) : List Int := 1 :: (bytesL a ++ bytesL b)
def nodeV (a b : ByteArray) : ByteArray := strL (sha (nodeL a b))
def leafV (a : ByteArray) : ByteArray := strL (sha (0 :: bytesL a))
theorem nodeV_size (a b : ByteArray) : (nodeV a b).size = 32 := by rw [nodeV, strL_size, sha_len]
theorem leafV_size (a : ByteArray) : (leafV a).size = 32 := by rw [leafV, strL_size, sha_len]
theorem nodeL_bytes (a b : ByteArray) : IsBytes (nodeL a b) := IsBytes.cons (by decide) (by decide) ((IsBytes.bytesL a).append (IsBytes.bytesL b))
theorem node_str (a b : ByteArray) : ((⟨#[1]⟩ : ByteArray) ++ a) ++ b = strL (nodeL a b) := by
  have h : (⟨#[1]⟩ : ByteArray) = strL [1] := rfl
  rw [h]
  conv => lhs; rw [← strL_bytesL a, ← strL_bytesL b]
  rw [strL_append, strL_append]
  rfl
theorem nodeHash_i (a b : ByteArray) (ha : a.size ≤ 1000000000) (hb : b.size ≤ 1000000000) : i_nodeHash a b = some (nodeV a b) := by
  unfold i_nodeHash i_nodeHash.F
  have h1 : ByteArray.size (⟨#[1]⟩ : ByteArray) = 1 := rfl
  rw [grd_of (gCat_t (by omega)), grd_of (gCat_t (by rw [ByteArray.size_append]; omega)), node_str, hash_i _ (nodeL_bytes a b) (by simp [nodeL, bytesL_length]; omega), bs]
  rfl
theorem node_s (a b : ByteArray) (ha : a.size ≤ 1000000000) (hb : b.size ≤ 1000000000) : s_l06Node a b = some (nodeV a b) := by
  unfold s_l06Node s_l06Node.F
  rw [grd_of (gRm_t (by simp [bytesL_length]; omega)), grd_of (gRm_t (by simp [bytesL_length]; omega))]
  have h : ([(1 : Int)] ++ bytesL a) ++ bytesL b = nodeL a b := by simp [nodeL]
  rw [h, hash_s _ (nodeL_bytes a b) (by simp [nodeL, bytesL_length]; omega), bs]
  rfl
theorem leaf_s (a : ByteArray) (ha : a.size ≤ 1000000000) : s_l06Leaf a = some (leafV a) := by
  unfold s_l06Leaf s_l06Leaf.F
  rw [grd_of (gRm_t (by simp [bytesL_length]; omega))]
  have h : [(0 : Int)] ++ bytesL a = 0 :: bytesL a := rfl
  rw [h, hash_s _ (IsBytes.cons (by decide) (by decide) (IsBytes.bytesL a)) (by simp [bytesL_length]; omega), bs]
  rfl
theorem half_loop {R R' : Type} (kke : Int → Option R) (kke' : Int → Option R') (N : Int) (hN : N ≤ 1000000000) : ∀ (m n : Nat) (k : Int), 1 ≤ k → k < N → N - k ≤ m → m < n →
    ∃ r, i_split.l1 kke n N k = kke r ∧ s_l06Half.l1 kke' n N k = kke' r ∧ 1 ≤ r ∧ r < N
  | 0, n, k, h1, h2, h3, h4 => by omega
  | m + 1, n + 1, k, h1, h2, h3, h4 => by
    simp only [i_split.l1, s_l06Half.l1]
    rw [wr (x := 2 * k) (by omega) (by omega)]
    by_cases h : 2 * k < N
    · rw [decide_t h, ct, ct, wr (x := k * 2) (by omega) (by omega)]
      exact half_loop kke kke' N hN m n (k * 2) (by omega) (by omega) (by omega) (by omega)
    · rw [decide_f h, cf, cf]
      exact ⟨k, rfl, rfl, h1, h2⟩
noncomputable def half (N : Int) : Int := (i_split N).getD 0
theorem half_eq (N : Int) (h : 2 ≤ N) (hN : N ≤ 1000000000) : i_split N = some (half N) ∧ s_l06Half N = some (half N) ∧ 1 ≤ half N ∧ half N < N := by
  obtain ⟨r, h1, h2, h3, h4⟩ := half_loop (fun k => some k) (fun k => some k) N hN N.toNat fuel 1 (by decide) (by omega) (by omega) (by rw [fuel_eq]; omega)
  have h5 : i_split N = some r := h1
  have h6 : s_l06Half N = some r := h2
  have h7 : half N = r := by rw [half, h5]; rfl
  rw [h7]
  exact ⟨h5, h6, h3, h4⟩
/-- The way from a leaf up, the lowest step first: whether the leaf is on the left. -/
noncomputable def ways : Nat → Int → Int → List Bool
  | 0, _, _ => []
  | f + 1, at_, size => if size ≤ 1 then [] else if at_ < half size then ways f at_ (half size) ++ [true] else ways f (at_ - half size) (size - half size) ++ [false]
def foldW : ByteArray → List Bool → List ByteArray → ByteArray
  | own, d :: ds, p :: ps => foldW (if d then nodeV own p else nodeV p own) ds ps
  | own, _, _ => own
theorem foldW_snoc (d : Bool) (p : ByteArray) : ∀ (ds : List Bool) (ps : List ByteArray) (own : ByteArray), ds.length = ps.length → foldW own (ds ++ [d]) (ps ++ [p]) = if d then nodeV (foldW own ds ps) p else nodeV p (foldW own ds ps)
  | [], [], own, _ => rfl
  | [], _ :: _, own, h => by simp at h
  | _ :: _, [], own, h => by simp at h
  | e :: ds, q :: ps, own, h => foldW_snoc d p ds ps _ (by simpa using h)
/-- What is hashed on the way up, from the lowest on. -/
def inputsW : ByteArray → List Bool → List ByteArray → List ByteArray
  | own, d :: ds, p :: ps => strL (if d then nodeL own p else nodeL p own) :: inputsW (if d then nodeV own p else nodeV p own) ds ps
  | _, _, _ => []
theorem inputsW_snoc (d : Bool) (p : ByteArray) : ∀ (ds : List Bool) (ps : List ByteArray) (own : ByteArray), ds.length = ps.length → inputsW own (ds ++ [d]) (ps ++ [p]) = inputsW own ds ps ++ [strL (if d then nodeL (foldW own ds ps) p else nodeL p (foldW own ds ps))]
  | [], [], own, _ => rfl
  | [], _ :: _, own, h => by simp at h
  | _ :: _, [], own, h => by simp at h
  | e :: ds, q :: ps, own, h => congrArg (strL (if e then nodeL own q else nodeL q own) :: ·) (inputsW_snoc d p ds ps _ (by simpa using h))
theorem pnext_eq (proof : List ByteArray) (bad : Bool) (steps : List ByteArray) (h : proof.length ≤ 1000000000) : i_prover_next proof bad steps = some (proof.headD ByteArray.empty, proof.tail, bad || proof.isEmpty, steps) := by
  unfold i_prover_next i_prover_next.F
  cases proof with
  | nil => simp
  | cons p ps =>
    rw [show ((List.length (p :: ps) : Int) == 0) = false by simp; omega, cf, grd_of (gIx_t (by decide) (by simp)), grd_of (gSl_t (by decide) (by simp; omega) (by omega)), sub_drop _ _ rfl]
    simp
    rfl
theorem pnode_eq (proof : List ByteArray) (bad : Bool) (steps : List ByteArray) (a b : ByteArray) (ha : a.size ≤ 1000000000) (hb : b.size ≤ 1000000000) (hs : steps.length ≤ 1000000000) : i_prover_node proof bad steps a b = some (nodeV a b, proof, bad, steps ++ [strL (nodeL a b)]) := by
  unfold i_prover_node i_prover_node.F
  have h1 : ByteArray.size (⟨#[1]⟩ : ByteArray) = 1 := rfl
  rw [grd_of (gCat_t (by omega)), grd_of (gCat_t (by rw [ByteArray.size_append]; omega)), grd_of (gRm_t (by simp; omega)), nodeHash_i a b ha hb, bs, node_str]
def Small (p : List ByteArray) : Prop := p.length ≤ 100000000 ∧ ∀ s ∈ p, s.size ≤ 1000000
theorem Small.head {p : List ByteArray} (h : Small p) : (p.headD ByteArray.empty).size ≤ 1000000 := by
  cases p with
  | nil => exact Nat.zero_le _
  | cons x l => exact h.2 x (by simp)
theorem Small.drop {p : List ByteArray} (h : Small p) (n : Nat) : Small (p.drop n) := ⟨by have := h.1; simp; omega, fun s hs => h.2 s (List.mem_of_mem_drop hs)⟩
theorem drop_headD {p : List ByteArray} {n : Nat} (h : n < p.length) : (p.drop n).headD ByteArray.empty = p[n] := by rw [drop_cons h]; rfl
theorem incl_i (leaf : ByteArray) (hleaf : leaf.size ≤ 1000000) : ∀ (m fu : Nat) (at_ size : Int) (proof : List ByteArray) (bad : Bool) (steps : List ByteArray), size ≤ m → m < fu → m ≤ 1000000 → at_ ≤ 1000000 → -1000000 ≤ at_ - size → Small proof → steps.length + m ≤ 100000000 →
    ∃ own st, i_prover_inclusion fu proof bad steps leaf at_ size = some (own, proof.drop (ways m at_ size).length, bad || decide (proof.length < (ways m at_ size).length), st) ∧ own.size ≤ 1000000 ∧ st.length = steps.length + (ways m at_ size).length ∧ (ways m at_ size).length ≤ m ∧
      ((ways m at_ size).length ≤ proof.length → own = foldW leaf (ways m at_ size) (proof.take (ways m at_ size).length) ∧ st = steps ++ inputsW leaf (ways m at_ size) (proof.take (ways m at_ size).length))
  | 0, fu + 1, at_, size, proof, bad, steps, h1, h2, h3, h4, h5, hp, hst => by
    unfold i_prover_inclusion i_prover_inclusion.F
    rw [decide_t (by omega), ct]
    exact ⟨leaf, steps, by simp [ways], hleaf, rfl, Nat.le_refl _, fun _ => by simp [ways, foldW, inputsW]⟩
  | m + 1, fu + 1, at_, size, proof, bad, steps, h1, h2, h3, h4, h5, hp, hst => by
    unfold i_prover_inclusion i_prover_inclusion.F
    by_cases hz : size ≤ 1
    · rw [decide_t hz, ct]
      have : ways (m + 1) at_ size = [] := by simp [ways, hz]
      rw [this]
      exact ⟨leaf, steps, by simp, hleaf, rfl, by simp, fun _ => by simp [foldW, inputsW]⟩
    · obtain ⟨e1, _, e3, e4⟩ := half_eq size (by omega) (by omega)
      rw [decide_f hz, cf, e1, bs]
      have hpl := hp.1
      by_cases ha : at_ < half size
      · obtain ⟨own, st, i1, i2, i3, i4, i5⟩ := incl_i leaf hleaf m fu at_ (half size) proof bad steps (by omega) (by omega) (by omega) (by omega) (by omega) hp (by omega)
        have hw : ways (m + 1) at_ size = ways m at_ (half size) ++ [true] := by simp [ways, hz, ha]
        rw [decide_t ha, ct, i1, bs]
        dsimp only
        rw [pnext_eq _ _ _ (by simp; omega), bs]
        dsimp only
        rw [pnode_eq _ _ _ own ((proof.drop (ways m at_ (half size)).length).headD ByteArray.empty) (by omega) (by have := (hp.drop (ways m at_ (half size)).length).head; omega) (by omega), bs, hw]
        refine ⟨nodeV own ((proof.drop (ways m at_ (half size)).length).headD ByteArray.empty), st ++ [strL (nodeL own ((proof.drop (ways m at_ (half size)).length).headD ByteArray.empty))], ?_, by rw [nodeV_size]; omega, by simp [i3]; omega, by simp; omega, fun hle => ?_⟩
        · dsimp only
          rw [List.tail_drop, List.length_append, List.length_singleton]
          congr 4
          rw [Bool.or_assoc]
          congr 1
          rw [Bool.eq_iff_iff, Bool.or_eq_true, decide_eq_true_iff, decide_eq_true_iff, List.isEmpty_iff, List.drop_eq_nil_iff]
          omega
        · rw [List.length_append, List.length_singleton] at hle ⊢
          have hlt : (ways m at_ (half size)).length < proof.length := by omega
          obtain ⟨k1, k2⟩ := i5 (by omega)
          rw [take_snoc hlt, foldW_snoc _ _ _ _ _ (by simp; omega), inputsW_snoc _ _ _ _ _ (by simp; omega), if_pos rfl, if_pos rfl, ← k1, drop_headD hlt, k2]
          exact ⟨rfl, by rw [List.append_assoc]⟩
      · obtain ⟨own, st, i1, i2, i3, i4, i5⟩ := incl_i leaf hleaf m fu (at_ - half size) (size - half size) proof bad steps (by omega) (by omega) (by omega) (by omega) (by omega) hp (by omega)
        have hw : ways (m + 1) at_ size = ways m (at_ - half size) (size - half size) ++ [false] := by simp [ways, hz, ha]
        rw [decide_f ha, cf, wr (by omega) (by omega), wr (by omega) (by omega), i1, bs]
        dsimp only
        rw [pnext_eq _ _ _ (by simp; omega), bs]
        dsimp only
        rw [pnode_eq _ _ _ ((proof.drop (ways m (at_ - half size) (size - half size)).length).headD ByteArray.empty) own (by have := (hp.drop (ways m (at_ - half size) (size - half size)).length).head; omega) (by omega) (by omega), bs, hw]
        refine ⟨nodeV ((proof.drop (ways m (at_ - half size) (size - half size)).length).headD ByteArray.empty) own, st ++ [strL (nodeL ((proof.drop (ways m (at_ - half size) (size - half size)).length).headD ByteArray.empty) own)], ?_, by rw [nodeV_size]; omega, by simp [i3]; omega, by simp; omega, fun hle => ?_⟩
        · dsimp only
          rw [List.tail_drop, List.length_append, List.length_singleton]
          congr 4
          rw [Bool.or_assoc]
          congr 1
          rw [Bool.eq_iff_iff, Bool.or_eq_true, decide_eq_true_iff, decide_eq_true_iff, List.isEmpty_iff, List.drop_eq_nil_iff]
          omega
        · rw [List.length_append, List.length_singleton] at hle ⊢
          have hlt : (ways m (at_ - half size) (size - half size)).length < proof.length := by omega
          obtain ⟨k1, k2⟩ := i5 (by omega)
          rw [take_snoc hlt, foldW_snoc _ _ _ _ _ (by simp; omega), inputsW_snoc _ _ _ _ _ (by simp; omega), if_neg (by decide), if_neg (by decide), ← k1, drop_headD hlt, k2]
          exact ⟨rfl, by rw [List.append_assoc]⟩
end Go.Proofs.YtdpjbeeokimnaaaA

/-
  Commands read from bytes: the program and the reference read alike, and read back what was written. No condition.
-/
namespace Go.Proofs.YtdpjbeeokimnaaaA
open Go
set_option linter.unusedVariables false
set_option linter.unusedSimpArgs false

end Go.Proofs.YtdpjbeeokimnaaaA

/-
  Draws out of a code: each draw comes to an end, with a number below what is asked. No condition.
-/
namespace Go.Proofs.YtdpjbeeokimnaaaA
open Go
set_option linter.unusedVariables false
set_option linter.unusedSimpArgs false

structure SrcOK (c : List Int) (a s : Int) (N : Int) : Prop where
  hb : IsBytes c
  hl : c.length ≤ 1048576
  a0 : 0 ≤ a
  aN : a ≤ N
  NN : N ≤ 4611686018427387904
  s0 : 0 ≤ s
  s1 : s < 2147483648
theorem SrcOK.mono {c : List Int} {a s N M : Int} (h : SrcOK c a s N) (h1 : N ≤ M) (h2 : M ≤ 4611686018427387904) : SrcOK c a s M := ⟨h.hb, h.hl, h.a0, by have := h.aN; omega, h2, h.s0, h.s1⟩
theorem byte_eq {c : List Int} {a s N : Int} (h : SrcOK c a s N) (hN : N + 1 ≤ 4611686018427387904) : ∃ v a' s', s_l00Src_byte c a s = some (v, c, a', s') ∧ (0 ≤ v ∧ v < 256) ∧ SrcOK c a' s' (N + 1) := by
  obtain ⟨hb, hl, a0, aN, _, s0, s1⟩ := h
  unfold s_l00Src_byte s_l00Src_byte.F
  rw [wr (x := a + 1) (by omega) (by omega), wr (x := a + 1 - 1) (by omega) (by omega)]
  by_cases h1 : a + 1 ≤ c.length
  · have hlt : a.toNat < c.length := by omega
    have hg := hb.get hlt
    have e : rdE (.int .u8) c (a + 1 - 1).toNat = c[a.toNat] := by
      rw [show (a + 1 - 1) = a by omega]; exact rdE_at (k := .int .u8) hlt
    rw [decide_t h1, cond_true, grd_of (gIx_t (by omega) (by omega)), grd_of (gNz_t (by decide)), grd_of (gIx_t (by omega) (by omega)), e]
    rw [wr (x := c[a.toNat]) (by omega) (by omega), wr (x := s * 31) (by omega) (by omega), wr (x := s * 31 + c[a.toNat]) (by omega) (by omega), wr (x := s * 31 + c[a.toNat] + 7) (by omega) (by omega), tmod_pos (by omega)]
    exact ⟨_, _, _, rfl, hg, hb, hl, by omega, by omega, by omega, by omega, by omega⟩
  · rw [decide_f h1, cond_false]
    by_cases h2 : a + 1 > 3000
    · rw [decide_t h2, cond_true]
      exact ⟨_, _, _, rfl, by decide, hb, hl, by omega, by omega, by omega, s0, s1⟩
    · rw [decide_f h2, cond_false, grd_of (gNz_t (by decide)), grd_of (gNz_t (by decide)), grd_of (gNz_t (by decide))]
      rw [wr (x := s * 1103515245) (by omega) (by omega), wr (x := s * 1103515245 + 12345) (by omega) (by omega), tmod_pos (x := s * 1103515245 + 12345) (by omega), tdiv_pos (by omega), wr (x := (s * 1103515245 + 12345) % 2147483648 / 65536) (by omega) (by omega), tmod_pos (by omega)]
      exact ⟨_, _, _, rfl, by omega, hb, hl, by omega, by omega, by omega, by omega, by omega⟩
theorem next_eq {c : List Int} {a s N : Int} (h : SrcOK c a s N) (hN : N + 3 ≤ 4611686018427387904) (n : Int) (h1 : 1 < n) (h2 : n ≤ 16777216) : ∃ v a' s', s_l00Src_next c a s n = some (v, c, a', s') ∧ (0 ≤ v ∧ v < n) ∧ SrcOK c a' s' (N + 3) := by
  unfold s_l00Src_next s_l00Src_next.F
  rw [decide_f (by omega : ¬ n ≤ 1), cond_false]
  obtain ⟨v, a1, s1, e1, hv, h3⟩ := byte_eq h (by omega)
  by_cases h4 : n ≤ 256
  · rw [decide_t h4, cond_true, e1, Option.bind_some, grd_of (gNz_t (by omega)), tmod_pos hv.1]
    exact ⟨_, _, _, rfl, ⟨Int.emod_nonneg _ (by omega), Int.emod_lt_of_pos _ (by omega)⟩, h3.mono (by omega) (by omega)⟩
  · obtain ⟨v2, a2, s2, e2, hv2, h5⟩ := byte_eq h3 (by omega)
    obtain ⟨v3, a3, s3, e3, hv3, h6⟩ := byte_eq h5 (by omega)
    rw [decide_f h4, cond_false, e1, Option.bind_some]
    dsimp only
    rw [e2, Option.bind_some]
    dsimp only
    rw [e3, Option.bind_some]
    dsimp only
    rw [grd_of (gNz_t (by omega)), wr (x := v * 65536) (by omega) (by omega), wr (x := v2 * 256) (by omega) (by omega), wr (x := v * 65536 + v2 * 256) (by omega) (by omega), wr (x := v * 65536 + v2 * 256 + v3) (by omega) (by omega), tmod_pos (by omega)]
    exact ⟨_, _, _, rfl, ⟨Int.emod_nonneg _ (by omega), Int.emod_lt_of_pos _ (by omega)⟩, h6.mono (by omega) (by omega)⟩
theorem source_eq (c : List Int) (hb : IsBytes c) (hl : c.length ≤ 1048576) : ∃ s, s_l00Source c = some (c, 0, s) ∧ SrcOK c 0 s 0 := by
  unfold s_l00Source s_l00Source.F
  rw [grd_of (gNz_t (by decide)), tmod_pos (by omega)]
  exact ⟨_, rfl, hb, hl, by omega, by omega, by decide, by omega, by omega⟩
theorem chance_eq {c : List Int} {a s N : Int} (h : SrcOK c a s N) (hN : N + 3 ≤ 4611686018427387904) (n : Int) (h1 : 1 < n) (h2 : n ≤ 16777216) : ∃ v a' s', s_l00Src_chance c a s n = some (v, c, a', s') ∧ SrcOK c a' s' (N + 3) := by
  unfold s_l00Src_chance s_l00Src_chance.F
  obtain ⟨v, a', s', e, hv, h3⟩ := next_eq h hN n h1 h2
  rw [e, Option.bind_some]
  exact ⟨_, _, _, rfl, h3⟩
end Go.Proofs.YtdpjbeeokimnaaaA

/-
  Entries of a log in bytes: the program's and the reference's; a drawn entry is a right one. No condition.
-/
namespace Go.Proofs.YtdpjbeeokimnaaaA
open Go
set_option linter.unusedVariables false
set_option linter.unusedSimpArgs false

end Go.Proofs.YtdpjbeeokimnaaaA

/-
  The laws' helpers at texts and entries. No condition.
-/
namespace Go.Proofs.YtdpjbeeokimnaaaA
open Go
set_option linter.unusedVariables false
set_option linter.unusedSimpArgs false

/-! ### Rows of texts -/
/-! ### Rows of entries -/
end Go.Proofs.YtdpjbeeokimnaaaA

/-
  Hashes' tests, trusts, proofs' codes. No condition.
-/
namespace Go.Proofs.YtdpjbeeokimnaaaA
open Go
set_option linter.unusedVariables false
set_option linter.unusedSimpArgs false

theorem any_not_all {α : Type} (q : α → Bool) (l : List α) : (!(l.any fun x => !q x)) = l.all q := by
  induction l with
  | nil => rfl
  | cons x l ih => rw [List.any_cons, List.all_cons, ← ih]; cases q x <;> simp
def is32 (t : ByteArray) : Bool := decide (t.size = 32)
theorem isHash_eq (l : List ByteArray) (h : l.length ≤ 1000000000) : i_isHash l = some (l.all is32) := by
  unfold i_isHash i_isHash.F slices_ContainsFunc_SLstring_string slices_ContainsFunc_SLstring_string.F slices_IndexFunc_SLstring_string slices_IndexFunc_SLstring_string.F
  have hq : ∀ x ∈ l, (fun x : ByteArray => (fun t : ByteArray × Unit => (i_isHash_1 t.1).bind fun a => some (a, ())) (x, ())) x = some (!is32 x, ()) := by
    intro x _
    have : ((x.size : Int) != 32) = !is32 x := by
      rw [Bool.eq_iff_iff, bne_iff_ne, is32, Bool.not_eq_true', decide_eq_false_iff_not]
      omega
    simp only [i_isHash_1, i_isHash_1.F, bs, this]
  have := find_loop (k := .str) (L := slices_IndexFunc_SLstring_string.l1 (fun t => (i_isHash_1 t.1).bind fun a => some (a, ())) (some (-1 : Int)) (fun i => some i)) (fun n s i j => rfl) (l := l) (by omega) hq l.length fuel 0 (by omega) (fuel_big (by omega))
  rw [Int.natCast_zero] at this
  rw [this, List.drop_zero, ← any_not_all, ← findIdx_any]
  cases l.findIdx? fun x => !is32 x with
  | none => rfl
  | some d => simp
theorem l06Hashes_eq (l : List ByteArray) (h : l.length ≤ 1000000000) : s_l06Hashes l = some (decide (l.length ≤ 64) && l.all is32) := by
  unfold s_l06Hashes s_l06Hashes.F
  by_cases h0 : l.length > 64
  · rw [decide_t (by omega), ct, decide_f (by omega), Bool.false_and]
  · rw [decide_f (by omega), cf, decide_t (by omega), Bool.true_and]
    have key : ∀ (m n j : Nat), j + m = l.length → m < n → s_l06Hashes.l1 (some true) (fun b => some b) n l j = some ((l.drop j).all is32) := by
      intro m
      induction m with
      | zero =>
        intro n j e hn
        obtain ⟨n, rfl⟩ : ∃ q, n = q + 1 := ⟨n - 1, by omega⟩
        simp only [s_l06Hashes.l1]
        rw [decide_f (by omega), cf, List.drop_of_length_le (by omega)]
        rfl
      | succ m ih =>
        intro n j e hn
        obtain ⟨n, rfl⟩ : ∃ q, n = q + 1 := ⟨n - 1, by omega⟩
        have hj : j < l.length := by omega
        simp only [s_l06Hashes.l1]
        rw [decide_t (by omega), ct, grd_of (gIx_t (by omega) (by omega)), Int.toNat_natCast, rdE_at (k := .str) hj, drop_cons hj, List.all_cons]
        by_cases h1 : l[j].size = 32
        · rw [show ((l[j].size : Int) != 32) = false by simp [h1], cf, wr (by omega) (by omega), show ((j : Int) + 1) = ((j + 1 : Nat) : Int) by omega, ih n (j + 1) (by omega) (by omega), show is32 l[j] = true from decide_eq_true h1, Bool.true_and]
        · rw [show ((l[j].size : Int) != 32) = true by simp; omega, ct, show is32 l[j] = false from decide_eq_false h1, Bool.false_and]
    exact key l.length fuel 0 (by omega) (fuel_big (by omega))
theorem size32 (t : ByteArray) : ((t.size : Int) == 32) = is32 t := by
  rw [Bool.eq_iff_iff, beq_iff_eq, is32, decide_eq_true_iff]
  omega
theorem size32' (t : ByteArray) : ((t.size : Int) != 32) = !is32 t := by rw [bne, size32]
theorem inclusionRoot_i (leaf : ByteArray) (at_ size : Int) (proof : List ByteArray) (hleaf : leaf.size ≤ 1000000) (hp : Small proof) :
    i_inclusionRoot leaf at_ size proof = some (if (1 ≤ size ∧ size ≤ 64) ∧ 0 ≤ at_ ∧ at_ ≤ size - 1 then (if proof.length = (ways 64 at_ size).length then (foldW leaf (ways 64 at_ size) proof, inputsW leaf (ways 64 at_ size) proof, 0) else (ByteArray.empty, [], 10)) else (ByteArray.empty, [], 4)) := by
  unfold i_inclusionRoot i_inclusionRoot.F
  rw [within_eq, bs]
  by_cases h1 : 1 ≤ size ∧ size ≤ 64
  · rw [decide_t h1.1, decide_t h1.2, Bool.and_self, Bool.not_true, cf, within_eq, bs, wr (x := size - 1) (by omega) (by omega)]
    by_cases h2 : 0 ≤ at_ ∧ at_ ≤ size - 1
    · rw [decide_t h2.1, decide_t h2.2, Bool.and_self, Bool.not_true, cf, if_pos ⟨h1, h2⟩]
      obtain ⟨own, st, i1, i2, i3, i4, i5⟩ := incl_i leaf hleaf 64 fuel at_ size proof false [] (by omega) (fuel_big (by omega)) (by omega) (by omega) (by omega) hp (by simp)
      rw [i1, bs]
      simp only [Bool.false_or]
      by_cases h3 : proof.length < (ways 64 at_ size).length
      · rw [decide_t h3, ct, if_neg (by omega)]
      · rw [decide_f h3, cf]
        by_cases h4 : proof.length = (ways 64 at_ size).length
        · obtain ⟨k1, k2⟩ := i5 (by omega)
          rw [← h4, List.take_length] at k1 k2
          rw [decide_f (by rw [List.length_drop]; omega), cf, if_pos h4, k1, k2, List.nil_append]
        · rw [decide_t (by rw [List.length_drop]; omega), ct, if_neg h4]
    · rw [show (decide (0 ≤ at_) && decide (at_ ≤ size - 1)) = false by rw [← Bool.not_eq_true, Bool.and_eq_true, decide_eq_true_iff, decide_eq_true_iff]; exact h2, Bool.not_false, ct, if_neg (fun h => h2 h.2)]
  · rw [show (decide (1 ≤ size) && decide (size ≤ 64)) = false by rw [← Bool.not_eq_true, Bool.and_eq_true, decide_eq_true_iff, decide_eq_true_iff]; exact h1, Bool.not_false, ct, if_neg (fun h => h1 h.1)]
end Go.Proofs.YtdpjbeeokimnaaaA

/-
  What is hashed on the way up, as the reference tells it. No condition.
-/
namespace Go.Proofs.YtdpjbeeokimnaaaA
open Go
set_option linter.unusedVariables false
set_option linter.unusedSimpArgs false

theorem inputs_s (leaf : ByteArray) (hleaf : leaf.size ≤ 1000000) : ∀ (m fu : Nat) (at_ size : Int) (proof : List ByteArray), 1 ≤ size → size ≤ m → m < fu → m ≤ 1000000 → at_ ≤ 1000000 → -1000000 ≤ at_ - size → Small proof →
    ∃ li own, s_l15Inputs fu leaf at_ size proof = some (li, own, decide (proof.length = (ways m at_ size).length)) ∧ own.size ≤ 1000000 ∧ li.length ≤ m ∧ (proof.length = (ways m at_ size).length → own = foldW leaf (ways m at_ size) proof ∧ li = inputsW leaf (ways m at_ size) proof)
  | 0, fu + 1, at_, size, proof, h0, h1, h2, h3, h4, h5, hp => by omega
  | m + 1, fu + 1, at_, size, proof, h0, h1, h2, h3, h4, h5, hp => by
    unfold s_l15Inputs s_l15Inputs.F
    have hpl := hp.1
    by_cases hz : size = 1
    · subst hz
      have hw : ways (m + 1) at_ 1 = [] := by simp [ways]
      rw [beq_self_eq_true, ct, hw]
      refine ⟨[], leaf, ?_, hleaf, by simp, fun _ => by simp [foldW, inputsW]⟩
      congr 3
      rw [Bool.eq_iff_iff, beq_iff_eq, decide_eq_true_iff, List.length_nil]
      omega
    · obtain ⟨_, e1, e3, e4⟩ := half_eq size (by omega) (by omega)
      rw [show (size == 1) = false by simp [hz], cf]
      have hz' : ¬ size ≤ 1 := by omega
      by_cases hn : proof.length = 0
      · rw [show ((proof.length : Int) == 0) = true by simp [hn], ct]
        have hne : (ways (m + 1) at_ size).length ≠ 0 := by
          simp only [ways, if_neg hz']
          split <;> simp
        exact ⟨[], ByteArray.empty, by rw [decide_f (by omega)], Nat.zero_le _, by simp, fun h => by omega⟩
      · obtain ⟨rest, last, hrl⟩ : ∃ rest last, proof = rest ++ [last] := ⟨proof.dropLast, proof.getLast (by rintro rfl; exact hn rfl), (List.dropLast_concat_getLast _).symm⟩
        have hlen : proof.length = rest.length + 1 := by rw [hrl]; simp
        have hrs : Small rest := ⟨by omega, fun s hs => hp.2 s (by rw [hrl]; simp [hs])⟩
        have hls : last.size ≤ 1000000 := hp.2 last (by rw [hrl]; simp)
        have hsub : sub proof 0 (rest.length : Int) = rest := by rw [sub_take, Int.toNat_natCast, hrl]; simp
        have hrd : rdE (.str : Kd) proof rest.length = last := by
          rw [rdE_at (k := .str) (show rest.length < List.length (α := ByteArray) proof by omega)]
          simp [hrl]
        rw [show ((proof.length : Int) == 0) = false by simp; intro h; exact hn (by rw [h]; rfl), cf, e1, bs, hlen, wr (by omega) (by omega), show (((rest.length + 1 : Nat) : Int) - 1) = (rest.length : Int) by omega, grd_of (gIx_t (by omega) (by omega)), grd_of (gSl_t (by omega) (by omega) (by omega)), hsub, Int.toNat_natCast, hrd]
        by_cases ha : at_ < half size
        · obtain ⟨li, own, i1, i2, i4, i3⟩ := inputs_s leaf hleaf m fu at_ (half size) rest (by omega) (by omega) (by omega) (by omega) (by omega) (by omega) hrs
          have hw : ways (m + 1) at_ size = ways m at_ (half size) ++ [true] := by simp [ways, hz', ha]
          rw [decide_t ha, ct, i1, bs]
          dsimp only
          have hsz : ByteArray.size (⟨#[1]⟩ : ByteArray) = 1 := rfl
          rw [grd_of (gCat_t (by omega)), grd_of (gCat_t (by rw [ByteArray.size_append]; omega)), grd_of (gRm_t (by simp; omega)), node_s own last (by omega) (by omega), bs, hw, node_str]
          refine ⟨li ++ [strL (nodeL own last)], nodeV own last, ?_, by rw [nodeV_size]; omega, by simp; omega, fun h => ?_⟩
          · congr 3
            rw [Bool.eq_iff_iff, decide_eq_true_iff, decide_eq_true_iff]
            simp
          · have hh : rest.length = (ways m at_ (half size)).length := by simp at h; exact h
            obtain ⟨k1, k2⟩ := i3 hh
            rw [hrl, foldW_snoc _ _ _ _ _ hh.symm, inputsW_snoc _ _ _ _ _ hh.symm, if_pos rfl, if_pos rfl, ← k1, ← k2]
            exact ⟨rfl, rfl⟩
        · obtain ⟨li, own, i1, i2, i4, i3⟩ := inputs_s leaf hleaf m fu (at_ - half size) (size - half size) rest (by omega) (by omega) (by omega) (by omega) (by omega) (by omega) hrs
          have hw : ways (m + 1) at_ size = ways m (at_ - half size) (size - half size) ++ [false] := by simp [ways, hz', ha]
          rw [decide_f ha, cf, wr (by omega) (by omega), wr (by omega) (by omega), i1, bs]
          dsimp only
          have hsz : ByteArray.size (⟨#[1]⟩ : ByteArray) = 1 := rfl
          rw [grd_of (gCat_t (by omega)), grd_of (gCat_t (by rw [ByteArray.size_append]; omega)), grd_of (gRm_t (by simp; omega)), node_s last own (by omega) (by omega), bs, hw, node_str]
          refine ⟨li ++ [strL (nodeL last own)], nodeV last own, ?_, by rw [nodeV_size]; omega, by simp; omega, fun h => ?_⟩
          · congr 3
            rw [Bool.eq_iff_iff, decide_eq_true_iff, decide_eq_true_iff]
            simp
          · have hh : rest.length = (ways m (at_ - half size) (size - half size)).length := by simp at h; exact h
            obtain ⟨k1, k2⟩ := i3 hh
            rw [hrl, foldW_snoc _ _ _ _ _ hh.symm, inputsW_snoc _ _ _ _ _ hh.symm, if_neg (by decide), if_neg (by decide), ← k1, ← k2]
            exact ⟨rfl, rfl⟩

/-! ### Collision -/
def isTx (t : ByteArray) : Bool := decide (t.size ≤ 65536)
theorem isText_eq (l : List ByteArray) (h : l.length ≤ 1000000000) : i_isText l = some (l.all isTx) := by
  unfold i_isText i_isText.F slices_ContainsFunc_SLstring_string slices_ContainsFunc_SLstring_string.F slices_IndexFunc_SLstring_string slices_IndexFunc_SLstring_string.F
  have hq : ∀ x ∈ l, (fun x : ByteArray => (fun t : ByteArray × Unit => (i_isText_1 t.1).bind fun a => some (a, ())) (x, ())) x = some (!isTx x, ()) := by
    intro x _
    have : decide ((x.size : Int) > 65536) = !isTx x := by
      rw [Bool.eq_iff_iff, decide_eq_true_iff, isTx, Bool.not_eq_true', decide_eq_false_iff_not]
      omega
    simp only [i_isText_1, i_isText_1.F, bs, this]
  have := find_loop (k := .str) (L := slices_IndexFunc_SLstring_string.l1 (fun t => (i_isText_1 t.1).bind fun a => some (a, ())) (some (-1 : Int)) (fun i => some i)) (fun n s i j => rfl) (l := l) (by omega) hq l.length fuel 0 (by omega) (fuel_big (by omega))
  rw [Int.natCast_zero] at this
  rw [this, List.drop_zero, ← any_not_all, ← findIdx_any]
  cases l.findIdx? fun x => !isTx x with
  | none => rfl
  | some d => simp
def prOK (p : List ByteArray) : Bool := decide (p.length ≤ 64) && p.all is32
theorem proofCode_one (p : List ByteArray) (x : ByteArray) (hp : p.length ≤ 4096) (hx : x.size ≤ 65536) : i_proofCode p [x] = some (if (is32 x && prOK p) = true then 0 else 1) := by
  unfold i_proofCode i_proofCode.F i_proofCode.j1 i_isList_string i_isList_string.F
  rw [bs, decide_t (by omega), Bool.not_true, cf, isText_eq [x] (by simp), bs]
  dsimp only
  rw [show (List.all [x] isTx) = true from by simp [isTx, hx], Bool.not_true, cf, isHash_eq [x] (by simp), bs, show (List.all [x] is32) = is32 x from by simp]
  unfold prOK
  cases is32 x with
  | false => rfl
  | true =>
    rw [Bool.not_true, cf, Bool.true_and]
    by_cases h1 : p.length ≤ 64
    · rw [decide_f (by omega), cf, isHash_eq p (by omega), bs, decide_t h1, Bool.true_and]
      cases p.all is32 <;> rfl
    · rw [decide_t (by omega), ct, decide_f h1, Bool.false_and, if_neg (by decide)]
theorem inputsW_len : ∀ (ds : List Bool) (ps : List ByteArray) (own : ByteArray), ds.length = ps.length → (inputsW own ds ps).length = ds.length
  | [], [], _, _ => rfl
  | [], _ :: _, _, h => by simp at h
  | _ :: _, [], _, h => by simp at h
  | d :: ds, p :: ps, own, h => by
    simp only [inputsW, List.length_cons]
    rw [inputsW_len ds ps _ (by simpa using h)]
theorem ways_len : ∀ (f : Nat) (at_ size : Int), (ways f at_ size).length ≤ f
  | 0, _, _ => by simp [ways]
  | f + 1, at_, size => by
    unfold ways
    split
    · simp
    · split
      · have := ways_len f at_ (half size); simp; omega
      · have := ways_len f (at_ - half size) (size - half size); simp; omega
/-- From the end on the first place where two rows differ. -/
noncomputable def dnC (a b : List ByteArray) : Nat → ByteArray × ByteArray × Int
  | 0 => (ByteArray.empty, ByteArray.empty, 5)
  | j + 1 => cond (!(sEq (rdE (.str : Kd) a j) (rdE (.str : Kd) b j))) (rdE (.str : Kd) a j, rdE (.str : Kd) b j, 0) (dnC a b j)
theorem dn_i (a b : List ByteArray) (s s1 : ByteArray) (i : Int) : ∀ n, n ≤ b.length → i_Collision.b2 (fun _ _ _ => some (ByteArray.empty, ByteArray.empty, (5 : Int))) (fun x y z => some (x, y, z)) n a s s1 i b = some (dnC a b n)
  | 0, _ => rfl
  | j + 1, h => by
    simp only [i_Collision.b2, dnC]
    rw [grd_of (gIx_t (by omega) (by omega)), Int.toNat_natCast, dn_i a b s s1 i j (by omega), grd_of (gIx_t (by omega) (by omega))]
    cases sEq (rdE (.str : Kd) a j) (rdE (.str : Kd) b j) <;> rfl
theorem dn_s (a b : List ByteArray) (hab : a.length = b.length) (hl : a.length ≤ 1000000) : ∀ (n fu : Nat), n ≤ a.length → n < fu → s_Collision.l1 (some (ByteArray.empty, ByteArray.empty, (5 : Int))) (fun x y z => some (x, y, z)) fu ((n : Int) - 1) a b = some (dnC a b n)
  | 0, fu + 1, _, _ => by
    simp only [s_Collision.l1, dnC]
    rw [decide_f (by omega), cf]
  | j + 1, fu + 1, h, hf => by
    simp only [s_Collision.l1, dnC]
    rw [show (((j + 1 : Nat) : Int) - 1) = (j : Int) by omega, decide_t (by omega), ct, grd_of (gIx_t (by omega) (by omega)), grd_of (gIx_t (by omega) (by omega)), Int.toNat_natCast, grd_of (gIx_t (by omega) (by omega)), grd_of (gIx_t (by omega) (by omega)),
      wr (by omega) (by omega), dn_s a b hab hl j fu (by omega) (by omega)]
    cases sEq (rdE (.str : Kd) a j) (rdE (.str : Kd) b j) <;> rfl
theorem small_of {p : List ByteArray} (h : prOK p = true) : Small p ∧ p.length ≤ 64 := by
  unfold prOK at h
  rw [Bool.and_eq_true, decide_eq_true_iff, List.all_eq_true] at h
  exact ⟨⟨by omega, fun s hs => by have := of_decide_eq_true (h.2 s hs); omega⟩, h.1⟩
/-- THE TWO AGREE. -/
theorem collision_eq (at_ size : Int) (x y : ByteArray) (p q : List ByteArray) (hp : p.length ≤ 1048576) (hq : q.length ≤ 1048576) :
    ∃ r, i_Collision at_ size x p y q = some r ∧ s_Collision at_ size x p y q = some r := by
  unfold i_Collision i_Collision.F s_Collision s_Collision.F i_isList_string i_isList_string.F
  rw [bs, bs, isText_eq [x, y] (by simp), bs, l06Hashes_eq p (by omega), l06Hashes_eq q (by omega)]
  simp only [bs]
  by_cases hx : x.size ≤ 65536
  · by_cases hy : y.size ≤ 65536
    · by_cases h0 : p.length ≤ 4096
      · by_cases h1 : q.length ≤ 4096
        · have ht : List.all [x, y] isTx = true := by simp [isTx, hx, hy]
          rw [ht, decide_t (show (p.length : Int) ≤ 4096 by omega), decide_t (show (q.length : Int) ≤ 4096 by omega), decide_f (show ¬ (x.size : Int) > 65536 by omega), decide_f (show ¬ (y.size : Int) > 65536 by omega), decide_f (show ¬ (p.length : Int) > 4096 by omega), decide_f (show ¬ (q.length : Int) > 4096 by omega), Bool.not_true]
          simp only [cf]
          rw [proofCode_one p x h0 hx, proofCode_one q y h1 hy, bs, size32' x, size32' y]
          show ∃ r, _ = some r ∧ cond (!prOK p) _ (cond (!prOK q) _ _) = some r
          have bad : ∀ (u v : Bool), (u && v) = false → (cond ((if (u && v) = true then (0 : Int) else 1) != 0) (some (ByteArray.empty, ByteArray.empty, (1 : Int))) none) = some (ByteArray.empty, ByteArray.empty, 1) := by
            intro u v h
            rw [h]
            rfl
          cases h2 : (is32 x && prOK p) with
          | false =>
            refine ⟨(ByteArray.empty, ByteArray.empty, 1), rfl, ?_⟩
            cases h3 : prOK p with
            | false => rfl
            | true =>
              rw [h3, Bool.and_true] at h2
              rw [h2]
              cases prOK q <;> rfl
          | true =>
            rw [Bool.and_eq_true] at h2
            rw [if_pos rfl, show ((0 : Int) != 0) = false from rfl, cf, bs, h2.1, h2.2]
            cases h3 : (is32 y && prOK q) with
            | false =>
              refine ⟨(ByteArray.empty, ByteArray.empty, 1), rfl, ?_⟩
              cases h4 : prOK q with
              | false => rfl
              | true =>
                rw [h4, Bool.and_true] at h3
                rw [h3]
                rfl
            | true =>
              rw [Bool.and_eq_true] at h3
              obtain ⟨hsp, hp64⟩ := small_of h2.2
              obtain ⟨hsq, hq64⟩ := small_of h3.2
              have hx32 : x.size = 32 := of_decide_eq_true h2.1
              have hy32 : y.size = 32 := of_decide_eq_true h3.1
              rw [if_pos rfl, show ((0 : Int) != 0) = false from rfl, cf, h3.1, h3.2, inclusionRoot_i x at_ size p (by omega) hsp, inclusionRoot_i y at_ size q (by omega) hsq, l01In_eq, bs, bs, bs]
              simp only [Bool.not_true, cf]
              by_cases h5 : 1 ≤ size ∧ size ≤ 64
              · rw [decide_t h5.1, decide_t h5.2, Bool.and_self, Bool.not_true, cf, wr (x := size - 1) (by omega) (by omega), l01In_eq, bs]
                by_cases h6 : 0 ≤ at_ ∧ at_ ≤ size - 1
                · rw [decide_t h6.1, decide_t h6.2, Bool.and_self, Bool.not_true, cf, if_pos (show ((1 ≤ size ∧ size ≤ 64) ∧ 0 ≤ at_ ∧ at_ ≤ size - 1) from ⟨h5, h6⟩), if_pos (show ((1 ≤ size ∧ size ≤ 64) ∧ 0 ≤ at_ ∧ at_ ≤ size - 1) from ⟨h5, h6⟩)]
                  obtain ⟨la, oa, a1, a2, a3, a4⟩ := inputs_s x (by omega) 64 fuel at_ size p h5.1 (by omega) (fuel_big (by omega)) (by omega) (by omega) (by omega) hsp
                  obtain ⟨lb, ob, b1, b2, b3, b4⟩ := inputs_s y (by omega) 64 fuel at_ size q h5.1 (by omega) (fuel_big (by omega)) (by omega) (by omega) (by omega) hsq
                  rw [a1, b1, bs, bs]
                  dsimp only
                  unfold i_Collision.j1
                  by_cases h7 : p.length = (ways 64 at_ size).length
                  · rw [if_pos h7, decide_t h7]
                    obtain ⟨rfl, rfl⟩ := a4 h7
                    dsimp only
                    rw [show ((0 : Int) != 0) = false from rfl, cf, Bool.not_true, cf]
                    by_cases h8 : q.length = (ways 64 at_ size).length
                    · rw [if_pos h8, decide_t h8]
                      obtain ⟨rfl, rfl⟩ := b4 h8
                      dsimp only
                      rw [show ((0 : Int) != 0) = false from rfl, cf, Bool.not_true, cf]
                      cases sEq (foldW x (ways 64 at_ size) p) (foldW y (ways 64 at_ size) q) with
                      | false => exact ⟨_, rfl, rfl⟩
                      | true =>
                        rw [Bool.not_true, cf, cf]
                        have hla := inputsW_len (ways 64 at_ size) p x h7.symm
                        have hlb := inputsW_len (ways 64 at_ size) q y h8.symm
                        have hw := ways_len 64 at_ size
                        rw [grd_of (decide_t (by omega)), dn_i _ _ _ _ _ _ (by omega), wr (by omega) (by omega), dn_s _ _ (by omega) (by omega) _ fuel (Nat.le_refl _) (fuel_big (by omega))]
                        exact ⟨_, rfl, rfl⟩
                    · rw [if_neg h8, decide_f h8]
                      exact ⟨_, rfl, rfl⟩
                  · rw [if_neg h7, decide_f h7]
                    dsimp only
                    rw [show ((10 : Int) != 0) = true from rfl, ct, ct]
                    by_cases h8 : q.length = (ways 64 at_ size).length
                    · rw [if_pos h8]
                      exact ⟨_, rfl, rfl⟩
                    · rw [if_neg h8]
                      exact ⟨_, rfl, rfl⟩
                · rw [show (decide (0 ≤ at_) && decide (at_ ≤ size - 1)) = false by rw [← Bool.not_eq_true, Bool.and_eq_true, decide_eq_true_iff, decide_eq_true_iff]; exact h6, if_neg (show ¬ ((1 ≤ size ∧ size ≤ 64) ∧ 0 ≤ at_ ∧ at_ ≤ size - 1) from fun h => h6 h.2), if_neg (show ¬ ((1 ≤ size ∧ size ≤ 64) ∧ 0 ≤ at_ ∧ at_ ≤ size - 1) from fun h => h6 h.2)]
                  exact ⟨_, rfl, rfl⟩
              · rw [show (decide (1 ≤ size) && decide (size ≤ 64)) = false by rw [← Bool.not_eq_true, Bool.and_eq_true, decide_eq_true_iff, decide_eq_true_iff]; exact h5, if_neg (show ¬ ((1 ≤ size ∧ size ≤ 64) ∧ 0 ≤ at_ ∧ at_ ≤ size - 1) from fun h => h5 h.1), if_neg (show ¬ ((1 ≤ size ∧ size ≤ 64) ∧ 0 ≤ at_ ∧ at_ ≤ size - 1) from fun h => h5 h.1)]
                exact ⟨_, rfl, rfl⟩
        · rw [decide_f (show ¬ (q.length : Int) ≤ 4096 by omega), decide_t (show (q.length : Int) > 4096 by omega), decide_t (show (p.length : Int) ≤ 4096 by omega), decide_f (show ¬ (x.size : Int) > 65536 by omega), decide_f (show ¬ (y.size : Int) > 65536 by omega), decide_f (show ¬ (p.length : Int) > 4096 by omega)]
          exact ⟨_, rfl, rfl⟩
      · rw [decide_f (show ¬ (p.length : Int) ≤ 4096 by omega), decide_t (show (p.length : Int) > 4096 by omega), decide_f (show ¬ (x.size : Int) > 65536 by omega), decide_f (show ¬ (y.size : Int) > 65536 by omega)]
        exact ⟨_, rfl, rfl⟩
    · have ht : List.all [x, y] isTx = false := by simp [isTx, hy]
      refine ⟨(ByteArray.empty, ByteArray.empty, 2), ?_, ?_⟩
      · rw [ht]
        cases decide ((p.length : Int) ≤ 4096) <;> cases decide ((q.length : Int) ≤ 4096) <;> rfl
      · rw [decide_f (show ¬ (x.size : Int) > 65536 by omega), decide_t (show (y.size : Int) > 65536 by omega)]
        rfl
  · have ht : List.all [x, y] isTx = false := by simp [isTx, hx]
    refine ⟨(ByteArray.empty, ByteArray.empty, 2), ?_, ?_⟩
    · rw [ht]
      cases decide ((p.length : Int) ≤ 4096) <;> cases decide ((q.length : Int) ≤ 4096) <;> rfl
    · rw [decide_t (show (x.size : Int) > 65536 by omega)]
      rfl
end Go.Proofs.YtdpjbeeokimnaaaA

/-
  Leaves that are drawn, their proofs, and what a collision tells. No condition.
-/
namespace Go.Proofs.YtdpjbeeokimnaaaA
open Go
set_option linter.unusedVariables false
set_option linter.unusedSimpArgs false

/-! ### Draws -/
def All32 (l : List ByteArray) : Prop := ∀ s ∈ l, s.size = 32
theorem All32.app {l m : List ByteArray} (h : All32 l) (h' : All32 m) : All32 (l ++ m) := fun s hs => (List.mem_append.1 hs).elim (h s) (h' s)
theorem All32.sub {l : List ByteArray} (h : All32 l) (a b : Int) : All32 (sub l a b) := fun s hs => h s (List.mem_of_mem_take (List.mem_of_mem_drop hs))
theorem All32.one {s : ByteArray} (h : s.size = 32) : All32 [s] := fun t ht => by simp at ht; rw [ht]; exact h
theorem leaves1 {R : Type} (kke : List Int → Int → Int → List ByteArray → Option R) (c : List Int) : ∀ (m fu : Nat) (i a s N : Int) (out : List ByteArray), SrcOK c a s N → N + 3 * m ≤ 1000000 → i ≤ m → m < fu → All32 out → out.length + m ≤ 1000 →
    ∃ a' s' out', s_l00Src_leaves.l1 kke fu i c a s out = kke c a' s' out' ∧ SrcOK c a' s' (N + 3 * m) ∧ All32 out' ∧ out'.length ≤ out.length + m := by
  intro m
  induction m with
  | zero =>
    intro fu i a s N out h hN hi hf ho hl
    obtain ⟨fu, rfl⟩ : ∃ q, fu = q + 1 := ⟨fu - 1, by omega⟩
    simp only [s_l00Src_leaves.l1]
    rw [decide_f (by omega), cf]
    exact ⟨a, s, out, rfl, h.mono (by omega) (by omega), ho, by omega⟩
  | succ m ih =>
    intro fu i a s N out h hN hi hf ho hl
    obtain ⟨fu, rfl⟩ : ∃ q, fu = q + 1 := ⟨fu - 1, by omega⟩
    by_cases h0 : i > 0
    · obtain ⟨v, a1, s1, e1, hv, h1⟩ := next_eq h (by omega) 3 (by decide) (by decide)
      simp only [s_l00Src_leaves.l1]
      rw [decide_t h0, ct, e1, bs]
      dsimp only
      rw [leaf_s _ (by rw [strL_size]; simp), bs, grd_of (gRm_t (by simp; omega)), wr (by have := h.a0; omega) (by omega)]
      obtain ⟨a', s', out', e2, h2, h3, h4⟩ := ih fu (i - 1) a1 s1 (N + 3) (out ++ [leafV (strL [IntKind.wrap .u8 i, IntKind.wrap .u8 v])]) h1 (by omega) (by omega) (by omega) (ho.app (All32.one (leafV_size _))) (by simp; omega)
      refine ⟨a', s', out', e2, h2.mono (by omega) (by omega), h3, ?_⟩
      rw [List.length_append, List.length_singleton] at h4
      omega
    · simp only [s_l00Src_leaves.l1]
      rw [decide_f h0, cf]
      exact ⟨a, s, out, rfl, h.mono (by omega) (by omega), ho, by omega⟩
theorem leaves2 {R : Type} (kke : List Int → Int → Int → List ByteArray → Option R) (c : List Int) : ∀ (fu m : Nat) (a s N : Int) (out : List ByteArray), SrcOK c a s N → N + 3 * m + 3 ≤ 1000000 → 65 ≤ out.length + m → m < fu → All32 out → out.length ≤ 65 →
    ∃ a' s' out', s_l00Src_leaves.l2 kke fu c a s out = kke c a' s' out' ∧ All32 out' ∧ out'.length ≤ 65 := by
  intro fu
  induction fu with
  | zero => intro m a s N out h hN hi hf; omega
  | succ fu ih =>
    intro m a s N out h hN hi hf ho hl
    obtain ⟨v, a1, s1, e1, hv, h1⟩ := next_eq h (by omega) 2 (by decide) (by decide)
    simp only [s_l00Src_leaves.l2]
    rw [e1, bs]
    dsimp only
    rw [wr (by omega) (by omega)]
    by_cases h0 : (out.length : Int) < 64 + v
    · rw [decide_t h0, ct]
      by_cases hz : out = []
      · subst hz
        simp only [List.length_nil] at hi
        have e0 : mn2 (1 : Int) ((List.length ([] : List ByteArray)) : Int) = 0 := rfl
        rw [e0, show sub ([] : List ByteArray) 0 0 = [] from rfl, grd_of (gSl_t (by decide) (by decide) (by decide)), grd_of (gRm_t (by decide))]
        rw [show ((List.length (([] : List ByteArray) ++ []) : Int) == 0) = true from rfl, ct, leaf_s _ (by decide), bs, grd_of (gRm_t (by decide))]
        exact ih (m - 1) a1 s1 (N + 3) (([] ++ []) ++ [leafV ByteArray.empty]) h1 (by omega) (by simp; omega) (by omega) (fun t ht => by simp at ht; rw [ht]; exact leafV_size _) (by simp)
      · have hp : 0 < out.length := List.length_pos_iff.2 hz
        have e0 : mn2 (1 : Int) (out.length : Int) = 1 := by unfold mn2; rw [if_neg (by omega)]
        have hs := sub_length out (a := 0) (b := 1) (by decide) (by decide) (by omega)
        rw [e0, grd_of (gSl_t (by decide) (by decide) (by omega)), grd_of (gRm_t (by omega)), show ((List.length (out ++ sub out 0 1) : Int) == 0) = false by rw [List.length_append, beq_eq_false_iff_ne]; omega, cf]
        exact ih (m - 1) a1 s1 (N + 3) (out ++ sub out 0 1) h1 (by omega) (by rw [List.length_append]; omega) (by omega) (ho.app (ho.sub _ _)) (by rw [List.length_append]; omega)
    · rw [decide_f h0, cf]
      exact ⟨a1, s1, out, rfl, ho, hl⟩
theorem leavesOf_eq (c : List Int) (hb : IsBytes c) (hl : c.length ≤ 1048576) : ∃ l, s_LeavesOf c = some l ∧ All32 l ∧ l.length ≤ 40 := by
  unfold s_LeavesOf s_LeavesOf.F s_l00Src_leaves s_l00Src_leaves.F
  obtain ⟨s0, e0, h0⟩ := source_eq c hb hl
  obtain ⟨v1, a1, s1, e1, hv1, h1⟩ := next_eq h0 (by decide) 3 (by decide) (by decide)
  have hsel : (1 : Int) < rdE (.int .i64 : Kd) [(4 : Int), (10 : Int), (20 : Int)] v1.toNat ∧ rdE (.int .i64 : Kd) [(4 : Int), (10 : Int), (20 : Int)] v1.toNat ≤ (20 : Int) := by
    rcases (show v1 = 0 ∨ v1 = 1 ∨ v1 = 2 by omega) with rfl | rfl | rfl <;> exact ⟨by decide, by decide⟩
  obtain ⟨v2, a2, s2, e2, hv2, h2⟩ := next_eq h1 (by decide) _ hsel.1 (Int.le_trans hsel.2 (by decide))
  have hv20 : v2 ≤ 20 := Int.le_trans (Int.le_of_lt hv2.2) hsel.2
  rw [e0, bs]
  dsimp only
  rw [e1, bs]
  dsimp only
  rw [grd_of (gIx_t hv1.1 (by simpa using hv1.2)), e2, bs]
  dsimp only
  have fin : ∀ (l : List ByteArray) (a s : Int), All32 l → l.length ≤ 65 → ∃ r, (some (l, c, a, s)).bind (fun r1 => grd (gSl (0 : Int) (mn2 (40 : Int) (List.length r1.1 : Int)) (List.length r1.1)) <| some (sub r1.1 (0 : Int) (mn2 (40 : Int) (List.length r1.1 : Int)))) = some r ∧ All32 r ∧ r.length ≤ 40 := by
    intro l a s h hl
    rw [bs]
    dsimp only
    have hm : 0 ≤ mn2 (40 : Int) (l.length : Int) ∧ mn2 (40 : Int) (l.length : Int) ≤ l.length ∧ mn2 (40 : Int) (l.length : Int) ≤ 40 := by unfold mn2; split <;> omega
    have hs := sub_length l (a := 0) (b := mn2 (40 : Int) (l.length : Int)) (by decide) hm.1 hm.2.1
    rw [grd_of (gSl_t (by decide) hm.1 hm.2.1)]
    exact ⟨_, rfl, h.sub _ _, by omega⟩
  obtain ⟨a3, s3, out3, e3, h3, h4, h5⟩ := leaves1 (fun s s1 s2 out => (s_l00Src_chance s s1 s2 (40 : Int)).bind fun r2 => cond (r2.1) (s_l00Src_leaves.l2 (fun s3 s4 s5 out1 => some (out1, s3, s4, s5)) fuel r2.2.1 r2.2.2.1 r2.2.2.2 out) (some (out, r2.2.1, r2.2.2.1, r2.2.2.2))) c 20 fuel v2 a2 s2 _ [] h2 (by decide) (by omega) (fuel_big (by decide)) (fun t ht => by simp at ht) (by simp)
  rw [e3]
  obtain ⟨b, a4, s4, e4, h6⟩ := chance_eq h3 (by decide) 40 (by decide) (by decide)
  rw [e4, bs]
  dsimp only
  simp only [List.length_nil] at h5
  cases b with
  | false => exact fin out3 a4 s4 h4 (by omega)
  | true =>
    obtain ⟨a5, s5, out5, e5, h7, h8⟩ := leaves2 (fun s3 s4 s5 out1 => some (out1, s3, s4, s5)) c fuel 65 a4 s4 _ out3 h6 (by decide) (by omega) (fuel_big (by decide)) h4 (by omega)
    rw [ct, e5]
    exact fin out5 a5 s5 h7 h8
theorem hashOf_eq (c : List Int) (hb : IsBytes c) (hl : c.length ≤ 1048576) : ∃ h, s_HashOf c = some h ∧ h.size = 32 := by
  unfold s_HashOf s_HashOf.F s_l00Src_digest s_l00Src_digest.F
  obtain ⟨s0, e0, h0⟩ := source_eq c hb hl
  obtain ⟨v1, a1, s1, e1, hv1, h1⟩ := next_eq h0 (by decide) 256 (by decide) (by decide)
  obtain ⟨v2, a2, s2, e2, hv2, h2⟩ := next_eq h1 (by decide) 4 (by decide) (by decide)
  rw [e0, bs]
  dsimp only
  rw [e1, bs]
  dsimp only
  rw [e2, bs]
  dsimp only
  rw [wr8 hv1.1 hv1.2, wr8 hv2.1 (by omega), hash_s _ (IsBytes.cons hv1.1 hv1.2 (IsBytes.cons hv2.1 (by omega) IsBytes.nil)) (by simp), bs, bs]
  exact ⟨_, rfl, by rw [strL_size, sha_len]⟩
theorem at_eq (more : List Int) (hb : IsBytes more) (hl : more.length ≤ 1048576) (i n : Int) (h0 : 0 ≤ i) (h1 : i ≤ 1000) (hn : 1 ≤ n) (hn1 : n ≤ 1000000) : ∃ r, l_at more i n = some r ∧ 0 ≤ r ∧ r < n := by
  unfold l_at l_at.F
  by_cases h2 : n ≤ 1
  · rw [decide_t h2, ct]
    exact ⟨0, rfl, by omega, by omega⟩
  · rw [decide_f h2, cf]
    by_cases h3 : more.length = 0
    · rw [show ((more.length : Int) == 0) = true by simp [h3], ct, grd_of (gNz_t (by omega)), wr (by omega) (by omega), tmod_pos (by omega)]
      exact ⟨_, rfl, Int.emod_nonneg _ (by omega), Int.emod_lt_of_pos _ (by omega)⟩
    · have hL : (0 : Int) < more.length := by omega
      have g : ∀ x : Int, 0 ≤ x → 0 ≤ x % more.length ∧ x % more.length < more.length := fun x hx => ⟨Int.emod_nonneg _ (by omega), Int.emod_lt_of_pos _ hL⟩
      have g1 := g i h0
      have g2 := g (i + 1) (by omega)
      have b : ∀ x : Int, 0 ≤ x → x < more.length → (0 : Int) ≤ rdE (.int .u8 : Kd) more x.toNat ∧ rdE (.int .u8 : Kd) more x.toNat < (256 : Int) := fun x hx hx' => by
        rw [rdE_at (k := .int .u8) (show x.toNat < more.length by omega)]
        exact hb.get (by omega)
      have b1 := b _ g1.1 g1.2
      have b2 := b _ g2.1 g2.2
      have hd : 0 ≤ i / (more.length : Int) ∧ i / (more.length : Int) ≤ 1000 := ⟨Int.ediv_nonneg h0 (by omega), Int.le_trans (Int.ediv_le_self _ h0) h1⟩
      rw [show ((more.length : Int) == 0) = false by simp; intro h; exact h3 (by rw [h]; rfl), cf, wr (x := i + 1) (by omega) (by omega), tmod_pos h0, tmod_pos (show 0 ≤ i + 1 by omega), tdiv_pos h0, grd_of (gNz_t (by omega)), grd_of (gIx_t g1.1 g1.2), grd_of (gNz_t (by omega)), grd_of (gIx_t g2.1 g2.2), grd_of (gNz_t (by omega)), grd_of (gNz_t (by omega))]
      have key : ∀ u w d : Int, (0 ≤ u ∧ u < 256) → (0 ≤ w ∧ w < 256) → (0 ≤ d ∧ d ≤ 1000) → ∃ r, some (Int.tmod (IntKind.wrap .i64 ((IntKind.wrap .i64 ((IntKind.wrap .i64 ((IntKind.wrap .i64 u) * (31 : Int))) + (IntKind.wrap .i64 w))) + (IntKind.wrap .i64 d))) n) = some r ∧ 0 ≤ r ∧ r < n := by
        intro u w d hu hw hd
        rw [wr (x := u) (by omega) (by omega), wr (x := u * 31) (by omega) (by omega), wr (x := w) (by omega) (by omega), wr (x := u * 31 + w) (by omega) (by omega), wr (x := d) (by omega) (by omega), wr (x := u * 31 + w + d) (by omega) (by omega), tmod_pos (by omega)]
        exact ⟨_, rfl, Int.emod_nonneg _ (by omega), Int.emod_lt_of_pos _ (by omega)⟩
      exact key _ _ _ b1 b2 hd

/-! ### A proof of a leaf -/
theorem tree_ok : ∀ (m fu : Nat) (l : List ByteArray), l.length ≤ m → m < fu → m ≤ 1000 → 1 ≤ l.length → All32 l → ∃ v, s_l06Tree fu l = some v ∧ v.size = 32
  | 0, fu + 1, l, h, _, _, h1, _ => by omega
  | m + 1, fu + 1, l, h, hf, hm, h1, ha => by
    unfold s_l06Tree s_l06Tree.F
    rw [show ((l.length : Int) == 0) = false by rw [beq_eq_false_iff_ne]; omega, cf]
    by_cases h2 : l.length = 1
    · rw [show ((l.length : Int) == 1) = true by simp [h2], ct, grd_of (gIx_t (by decide) (by omega)), show (0 : Int).toNat = 0 from rfl, rdE_at (k := .str) (show 0 < List.length (α := ByteArray) l by omega)]
      exact ⟨_, rfl, ha _ (List.getElem_mem _)⟩
    · obtain ⟨_, e1, e3, e4⟩ := half_eq (l.length : Int) (by omega) (by omega)
      have l1 := sub_length l (a := 0) (b := half (l.length : Int)) (by decide) (by omega) (by omega)
      have l2 := sub_length l (a := half (l.length : Int)) (b := (l.length : Int)) (by omega) (by omega) (by omega)
      obtain ⟨v1, f1, k1⟩ := tree_ok m fu (sub l 0 (half (l.length : Int))) (by omega) (by omega) (by omega) (by omega) (ha.sub _ _)
      obtain ⟨v2, f2, k2⟩ := tree_ok m fu (sub l (half (l.length : Int)) (l.length : Int)) (by omega) (by omega) (by omega) (by omega) (ha.sub _ _)
      rw [show ((l.length : Int) == 1) = false by rw [beq_eq_false_iff_ne]; omega, cf, e1, bs, grd_of (gSl_t (by decide) (by omega) (by omega)), f1, bs, grd_of (gSl_t (by omega) (by omega) (by omega)), f2, bs, node_s _ _ (by omega) (by omega), bs]
      exact ⟨_, rfl, nodeV_size _ _⟩
theorem path_ok : ∀ (m fu : Nat) (l : List ByteArray) (at_ : Int), l.length ≤ m → m < fu → m ≤ 1000 → 0 ≤ at_ → at_ < l.length → All32 l → ∃ p, s_l06Path fu l at_ = some p ∧ All32 p ∧ p.length = (ways m at_ (l.length : Int)).length ∧ p.length ≤ m
  | 0, fu + 1, l, at_, h, _, _, h0, h1, _ => by omega
  | m + 1, fu + 1, l, at_, h, hf, hm, h0, h1, ha => by
    unfold s_l06Path s_l06Path.F
    by_cases h2 : l.length = 1
    · rw [show ((l.length : Int) == 1) = true by simp [h2], ct]
      refine ⟨[], rfl, fun s hs => by simp at hs, ?_, by simp⟩
      unfold ways
      rw [if_pos (by omega)]
      rfl
    · obtain ⟨_, e1, e3, e4⟩ := half_eq (l.length : Int) (by omega) (by omega)
      have l1 := sub_length l (a := 0) (b := half (l.length : Int)) (by decide) (by omega) (by omega)
      have l2 := sub_length l (a := half (l.length : Int)) (b := (l.length : Int)) (by omega) (by omega) (by omega)
      obtain ⟨v1, f1, k1⟩ := tree_ok 1000 fuel (sub l 0 (half (l.length : Int))) (by omega) (fuel_big (by decide)) (by omega) (by omega) (ha.sub _ _)
      obtain ⟨v2, f2, k2⟩ := tree_ok 1000 fuel (sub l (half (l.length : Int)) (l.length : Int)) (by omega) (fuel_big (by decide)) (by omega) (by omega) (ha.sub _ _)
      rw [show ((l.length : Int) == 1) = false by rw [beq_eq_false_iff_ne]; omega, cf, e1, bs]
      unfold ways
      rw [if_neg (by omega)]
      by_cases h3 : at_ < half (l.length : Int)
      · obtain ⟨p, f3, k3, k4, k5⟩ := path_ok m fu (sub l 0 (half (l.length : Int))) at_ (by omega) (by omega) (by omega) h0 (by omega) (ha.sub _ _)
        rw [decide_t h3, ct, grd_of (gSl_t (by decide) (by omega) (by omega)), f3, bs, grd_of (gSl_t (by omega) (by omega) (by omega)), f2, bs, grd_of (gRm_t (by simp; omega)), if_pos h3]
        refine ⟨_, rfl, k3.app (All32.one k2), ?_, by simp; omega⟩
        rw [l1, show half (l.length : Int) - 0 = half (l.length : Int) by omega] at k4
        rw [List.length_append, List.length_append, k4]
        rfl
      · obtain ⟨p, f3, k3, k4, k5⟩ := path_ok m fu (sub l (half (l.length : Int)) (l.length : Int)) (at_ - half (l.length : Int)) (by omega) (by omega) (by omega) (by omega) (by omega) (ha.sub _ _)
        rw [decide_f h3, cf, wr (by omega) (by omega), grd_of (gSl_t (by omega) (by omega) (by omega)), f3, bs, grd_of (gSl_t (by decide) (by omega) (by omega)), f1, bs, grd_of (gRm_t (by simp; omega)), if_neg h3]
        refine ⟨_, rfl, k3.app (All32.one k1), ?_, by simp; omega⟩
        rw [l2] at k4
        rw [List.length_append, List.length_append, k4]
        rfl
theorem all32_all {l : List ByteArray} (h : All32 l) : l.all is32 = true := List.all_eq_true.2 fun s hs => decide_eq_true (h s hs)
theorem inclusion_ok (l : List ByteArray) (at_ : Int) (h0 : 0 ≤ at_) (h1 : at_ < l.length) (hl : l.length ≤ 64) (ha : All32 l) : ∃ p, s_InclusionProof l at_ = some (p, 0) ∧ All32 p ∧ p.length = (ways 64 at_ (l.length : Int)).length ∧ p.length ≤ 64 := by
  unfold s_InclusionProof s_InclusionProof.F s_l06Code s_l06Code.F
  have hd : decide ((l.length : Int) > 4096) = false := decide_f (by omega)
  obtain ⟨p, e, k1, k2, _⟩ := path_ok 64 fuel l at_ hl (fuel_big (by decide)) (by decide) h0 h1 ha
  have hw := ways_len 64 at_ (l.length : Int)
  rw [hd, cf, cf, l06Hashes_eq l (by omega), all32_all ha, decide_t hl, bs, Bool.and_self, Bool.not_true, cf, bs, bne_self_eq_false, cf, wr (by omega) (by omega), l01In_eq, bs, decide_t h0, decide_t (show at_ ≤ (l.length : Int) - 1 by omega), Bool.and_self, Bool.not_true, cf, e, bs]
  exact ⟨p, rfl, k1, k2, by omega⟩

/-! ### What a collision tells -/
theorem dnC_self (a : List ByteArray) : ∀ n, dnC a a n = (ByteArray.empty, ByteArray.empty, 5)
  | 0 => rfl
  | n + 1 => by
    simp only [dnC]
    rw [sEq_self, Bool.not_true, cf, dnC_self a n]
theorem dnC_cons (a0 b0 : ByteArray) (a b : List ByteArray) : ∀ n, dnC (a0 :: a) (b0 :: b) (n + 1) = if (dnC a b n).2.2 = 0 then dnC a b n else cond (!(sEq a0 b0)) (a0, b0, 0) (ByteArray.empty, ByteArray.empty, 5)
  | 0 => rfl
  | n + 1 => by
    rw [dnC, dnC_cons a0 b0 a b n, dnC]
    have e : ∀ (x : ByteArray) (l : List ByteArray), rdE (.str : Kd) (x :: l) (n + 1) = rdE (.str : Kd) l n := fun x l => rfl
    rw [e, e]
    cases sEq (rdE (.str : Kd) a n) (rdE (.str : Kd) b n) with
    | true => rfl
    | false => rfl
/-- A text that was hashed: its own hash by the program's function. -/
def nl (d : Bool) (x p : ByteArray) : List Int := if d then nodeL x p else nodeL p x
theorem nl_bytes (d : Bool) (x p : ByteArray) : IsBytes (nl d x p) := by
  unfold nl
  split <;> exact nodeL_bytes _ _
theorem nl_len (d : Bool) (x p : ByteArray) (hx : x.size = 32) (hp : p.size = 32) : (nl d x p).length = 65 := by
  unfold nl nodeL
  split <;> simp [bytesL_length, hx, hp]
theorem nl_inj (d : Bool) {x p y q : ByteArray} (hx : x.size = 32) (hp : p.size = 32) (hy : y.size = 32) (hq : q.size = 32) (h : nl d x p = nl d y q) : x = y ∧ p = q := by
  unfold nl nodeL at h
  cases d with
  | true =>
    rw [if_pos rfl, if_pos rfl, List.cons.injEq] at h
    obtain ⟨h1, h2⟩ := List.append_inj h.2 (by rw [bytesL_length, bytesL_length, hx, hy])
    exact ⟨bytesL_inj h1, bytesL_inj h2⟩
  | false =>
    rw [if_neg (by decide), if_neg (by decide), List.cons.injEq] at h
    obtain ⟨h1, h2⟩ := List.append_inj h.2 (by rw [bytesL_length, bytesL_length, hp, hq])
    exact ⟨bytesL_inj h2, bytesL_inj h1⟩
theorem hashB (l : List Int) (hb : IsBytes l) (hl : l.length ≤ 65536) : i_Hash (bytesL (strL l)) = some (strL (sha l)) := by
  unfold i_Hash i_Hash.F
  rw [bytesL_strL hb, decide_f (by omega), cf, hash_i l hb (by omega)]
  rfl
theorem told : ∀ (ds : List Bool) (ps qs : List ByteArray) (x y : ByteArray), ps.length = ds.length → qs.length = ds.length → x.size = 32 → y.size = 32 → All32 ps → All32 qs → foldW x ds ps = foldW y ds qs →
    (∃ a b h, dnC (inputsW x ds ps) (inputsW y ds qs) ds.length = (a, b, 0) ∧ a ≠ b ∧ i_Hash (bytesL a) = some h ∧ i_Hash (bytesL b) = some h) ∨ (dnC (inputsW x ds ps) (inputsW y ds qs) ds.length = (ByteArray.empty, ByteArray.empty, 5) ∧ x = y ∧ ps = qs)
  | [], ps, qs, x, y, hp, hq, hx, hy, h1, h2, h => by
    obtain rfl := List.eq_nil_of_length_eq_zero hp
    obtain rfl := List.eq_nil_of_length_eq_zero hq
    exact .inr ⟨rfl, h, rfl⟩
  | d :: ds, [], qs, x, y, hp, hq, hx, hy, h1, h2, h => by simp at hp
  | d :: ds, _ :: _, [], x, y, hp, hq, hx, hy, h1, h2, h => by simp at hq
  | d :: ds, p :: ps, q :: qs, x, y, hp, hq, hx, hy, h1, h2, h => by
    have hp32 := h1 p (by simp)
    have hq32 := h2 q (by simp)
    have ex : (if d then nodeV x p else nodeV p x) = strL (sha (nl d x p)) := by unfold nl; cases d <;> rfl
    have ey : (if d then nodeV y q else nodeV q y) = strL (sha (nl d y q)) := by unfold nl; cases d <;> rfl
    have ix : (strL (if d then nodeL x p else nodeL p x)) = strL (nl d x p) := rfl
    have iy : (strL (if d then nodeL y q else nodeL q y)) = strL (nl d y q) := rfl
    simp only [foldW] at h
    rw [ex, ey] at h
    simp only [inputsW, List.length_cons]
    rw [ex, ey, ix, iy, dnC_cons]
    have szx : (strL (sha (nl d x p))).size = 32 := by rw [strL_size, sha_len]
    have szy : (strL (sha (nl d y q))).size = 32 := by rw [strL_size, sha_len]
    rcases told ds ps qs _ _ (by simpa using hp) (by simpa using hq) szx szy (fun s hs => h1 s (by simp [hs])) (fun s hs => h2 s (by simp [hs])) h with ⟨a, b, hh, e, hne, ha, hb⟩ | ⟨e, e2, e3⟩
    · rw [e, if_pos rfl]
      exact .inl ⟨a, b, hh, rfl, hne, ha, hb⟩
    · rw [e, if_neg (by decide)]
      by_cases hn : nl d x p = nl d y q
      · obtain ⟨k1, k2⟩ := nl_inj d hx hp32 hy hq32 hn
        rw [hn, sEq_self, Bool.not_true, cf]
        exact .inr ⟨rfl, k1, by rw [k2, e3]⟩
      · rw [sEq_strL (nl_bytes _ _ _) (nl_bytes _ _ _), decide_f hn, Bool.not_false, ct]
        refine .inl ⟨_, _, _, rfl, fun hs => hn (strL_inj (nl_bytes _ _ _) (nl_bytes _ _ _) hs), hashB _ (nl_bytes _ _ _) (by rw [nl_len d x p hx hp32]; decide), ?_⟩
        rw [hashB _ (nl_bytes _ _ _) (by rw [nl_len d y q hy hq32]; decide), e2]
/-- The program's answer where all is of the right shape. -/
theorem collision_val (at_ size : Int) (x y : ByteArray) (p q : List ByteArray) (h0 : 0 ≤ at_) (h1 : at_ < size) (h2 : size ≤ 64) (hx : x.size = 32) (hy : y.size = 32) (hp : All32 p) (hq : All32 q) (hpl : p.length = (ways 64 at_ size).length) (hql : q.length = (ways 64 at_ size).length) :
    i_Collision at_ size x p y q = some (if foldW x (ways 64 at_ size) p = foldW y (ways 64 at_ size) q then dnC (inputsW x (ways 64 at_ size) p) (inputsW y (ways 64 at_ size) q) (ways 64 at_ size).length else (ByteArray.empty, ByteArray.empty, 11)) := by
  have hw := ways_len 64 at_ size
  have op : prOK p = true := by unfold prOK; rw [all32_all hp, decide_t (by omega)]; rfl
  have oq : prOK q = true := by unfold prOK; rw [all32_all hq, decide_t (by omega)]; rfl
  have ox : is32 x = true := decide_eq_true hx
  have oy : is32 y = true := decide_eq_true hy
  unfold i_Collision i_Collision.F i_isList_string i_isList_string.F
  rw [bs, bs, isText_eq [x, y] (by simp), bs, show List.all [x, y] isTx = true by simp [isTx, hx, hy], decide_t (show (p.length : Int) ≤ 4096 by omega), decide_t (show (q.length : Int) ≤ 4096 by omega)]
  simp only [Bool.not_true, cf]
  rw [proofCode_one p x (by omega) (by omega), proofCode_one q y (by omega) (by omega), bs, ox, op, Bool.and_self, if_pos rfl, bne_self_eq_false, cf, bs, oy, oq, Bool.and_self, if_pos rfl, bne_self_eq_false, cf,
    inclusionRoot_i x at_ size p (by omega) (small_of op).1, inclusionRoot_i y at_ size q (by omega) (small_of oq).1, if_pos (show ((1 ≤ size ∧ size ≤ 64) ∧ 0 ≤ at_ ∧ at_ ≤ size - 1) from ⟨⟨by omega, h2⟩, h0, by omega⟩), if_pos (show ((1 ≤ size ∧ size ≤ 64) ∧ 0 ≤ at_ ∧ at_ ≤ size - 1) from ⟨⟨by omega, h2⟩, h0, by omega⟩), if_pos hpl, if_pos hql, bs, bs]
  unfold i_Collision.j1
  dsimp only
  rw [bne_self_eq_false, cf, cf, sEq_dec]
  by_cases h : foldW x (ways 64 at_ size) p = foldW y (ways 64 at_ size) q
  · rw [decide_t h, if_pos h, Bool.not_true, cf]
    have hla := inputsW_len (ways 64 at_ size) p x hpl.symm
    have hlb := inputsW_len (ways 64 at_ size) q y hql.symm
    rw [grd_of (decide_t (by omega)), dn_i _ _ _ _ _ _ (by omega), hla]
  · rw [decide_f h, if_neg h]
    rfl
theorem sameTexts_self (a : List ByteArray) (h : a.length ≤ 1048576) : l_sameTexts a a = some true := by
  unfold l_sameTexts l_sameTexts.F
  rw [show ((a.length : Int) != a.length) = false by simp, cf]
  have key : ∀ (m fu j : Nat), j + m = a.length → m < fu → l_sameTexts.l1 (some true) (fun b1 => some b1) fu a a (j : Int) = some true := by
    intro m
    induction m with
    | zero =>
      intro fu j e hf
      obtain ⟨fu, rfl⟩ : ∃ q, fu = q + 1 := ⟨fu - 1, by omega⟩
      simp only [l_sameTexts.l1]
      rw [decide_f (by omega), cf]
    | succ m ih =>
      intro fu j e hf
      obtain ⟨fu, rfl⟩ : ∃ q, fu = q + 1 := ⟨fu - 1, by omega⟩
      simp only [l_sameTexts.l1]
      rw [decide_t (by omega), ct, grd_of (gIx_t (by omega) (by omega)), grd_of (gIx_t (by omega) (by omega)), sEq_self, Bool.not_true, cf, wr (by omega) (by omega), show ((j : Int) + 1) = ((j + 1 : Nat) : Int) by omega]
      exact ih fu (j + 1) (by omega) (by omega)
  exact key a.length fuel 0 (by omega) (fuel_big (by omega))
end Go.Proofs.YtdpjbeeokimnaaaA

/-
  The law FnCollision: its pure statement holds. No condition.
-/
namespace Go.Proofs.YtdpjbeeokimnaaaA
open Go
set_option linter.unusedVariables false
set_option linter.unusedSimpArgs false

theorem All32.set {l : List ByteArray} (h : All32 l) (i : Nat) {s : ByteArray} (hs : s.size = 32) : All32 (setE (.str : Kd) l i s) := fun t ht => by
  rw [setE_eq] at ht
  rcases List.mem_or_eq_of_mem_set ht with h1 | h1
  · exact h t h1
  · rw [h1]; exact hs
theorem pFnCollision : ∀ (x0 : El (.list (.int .u8))) (x1 : El (.list (.int .u8))), (x0.length * 1 ≤ 140737488351232 ∧ x0.length ≤ maxLen ∧ ∀ y ∈ x0, (Lit.int .u8 y).wf = true) → (x1.length * 1 ≤ 140737488351232 ∧ x1.length ≤ maxLen ∧ ∀ y ∈ x1, (Lit.int .u8 y).wf = true) → l_FnCollision x0 x1 = some true := by
  intro x0 x1 ⟨_, _, a0⟩ ⟨_, _, a1⟩
  have hb0 : IsBytes x0 := isBytes_of_wf a0
  have hb1 : IsBytes x1 := isBytes_of_wf a1
  unfold l_FnCollision l_FnCollision.F
  by_cases h0 : (List.length (α := Int) x0 : Int) > 1048576
  · rw [decide_t h0, ct]
  · rw [decide_f h0, cf]
    by_cases h1 : (List.length (α := Int) x1 : Int) > 1048576
    · rw [decide_t h1, ct]
    · rw [decide_f h1, cf]
      obtain ⟨l, e1, hl, hl40⟩ := leavesOf_eq x0 hb0 (by omega)
      rw [e1, bs]
      by_cases h2 : l.length = 0
      · rw [show ((l.length : Int) == 0) = true by simp [h2], ct]
      · rw [show ((l.length : Int) == 0) = false by rw [beq_eq_false_iff_ne]; omega, cf]
        obtain ⟨k, e2, hk0, hk1⟩ := at_eq x1 hb1 (by omega) 0 (l.length : Int) (by decide) (by decide) (by omega) (by omega)
        rw [e2, bs]
        obtain ⟨p, e3, hp, hpl, hp64⟩ := inclusion_ok l k hk0 hk1 (by omega) hl
        have hkl : k.toNat < List.length (α := ByteArray) l := by omega
        obtain ⟨x, hxe⟩ : ∃ x : ByteArray, rdE (.str : Kd) l k.toNat = x := ⟨_, rfl⟩
        have hx : x.size = 32 := by rw [← hxe, rdE_at (k := .str) hkl]; exact hl _ (List.getElem_mem _)
        rw [e3, bs]
        dsimp only
        rw [hxe, grd_of (gIx_t hk0 (by omega)), grd_of (gIx_t hk0 (by omega))]
        rw [collision_val k (l.length : Int) x x p p hk0 hk1 (by omega) hx hx hp hp hpl hpl, if_pos rfl, dnC_self, bs]
        dsimp only
        obtain ⟨lf, e4, hlf⟩ := hashOf_eq x1 hb1 (by omega)
        rw [e4, bs, grd_of (gRm_t (by simp; omega)), List.nil_append]
        -- the rest, at any leaf and any proof of that length
        have key : ∀ (lf : ByteArray) (q : List ByteArray), lf.size = 32 → All32 q → q.length = p.length →
            (grd (gIx k (List.length l)) <|
              (i_Collision k (List.length l : Int) x p lf q).bind fun r5 =>
              grd (gIx k (List.length l)) <|
              (s_Collision k (List.length l : Int) x p lf q).bind fun r6 =>
              cond ((5 : Int) != (5 : Int)) (some false) (
                cond (r5.2.2 != r6.2.2) (some false) (
                  cond (!(sEq r5.1 r6.1)) (some false) (
                    cond (!(sEq r5.2.1 r6.2.1)) (some false) (
                      cond (r5.2.2 == (0 : Int)) (
                        cond (!(sEq r5.1 r5.2.1)) (
                          (i_Hash (bytesL r5.1)).bind fun r7 =>
                          (i_Hash (bytesL r5.2.1)).bind fun r8 =>
                          some (sEq r7 r8)) (some false)) (
                        cond (r5.2.2 == (11 : Int)) (some true) (
                          cond (r5.2.2 == (5 : Int)) (
                            grd (gIx k (List.length l)) <|
                            cond (sEq lf x) (
                              (l_sameTexts p q).bind fun r9 =>
                              some r9) (some false)) (some false)))))))) = some true := by
          intro lf q hlf hq hql
          obtain ⟨r, c1, c2⟩ := collision_eq k (l.length : Int) x lf p q (by omega) (by omega)
          have c3 := collision_val k (l.length : Int) x lf p q hk0 hk1 (by omega) hx hlf hp hq hpl (by omega)
          rw [c1] at c3
          rw [c1, c2, bs, bs, grd_of (gIx_t hk0 (by omega)), grd_of (gIx_t hk0 (by omega)), bne_self_eq_false, cf, bne_self_eq_false, cf, sEq_self, Bool.not_true, cf, sEq_self, Bool.not_true, cf]
          have c4 := Option.some.inj c3
          by_cases hf : foldW x (ways 64 k (l.length : Int)) p = foldW lf (ways 64 k (l.length : Int)) q
          · rw [if_pos hf] at c4
            rcases told (ways 64 k (l.length : Int)) p q x lf hpl (by omega) hx hlf hp hq hf with ⟨a, b, h, t1, t2, t3, t4⟩ | ⟨t1, t2, t3⟩
            · rw [t1] at c4
              subst c4
              dsimp only
              rw [show ((0 : Int) == 0) = true from rfl, ct, sEq_dec, decide_f t2, Bool.not_false, ct, t3, t4, bs, bs, sEq_self]
            · rw [t1] at c4
              subst c4
              subst t2
              subst t3
              dsimp only
              rw [show ((5 : Int) == 0) = false from rfl, cf, show ((5 : Int) == 11) = false from rfl, cf, show ((5 : Int) == 5) = true from rfl, ct, grd_of (gIx_t hk0 (by omega)), sEq_self, ct, sameTexts_self p (by omega), bs]
          · rw [if_neg hf] at c4
            subst c4
            rfl
        unfold l_FnCollision.j2 l_FnCollision.j1
        by_cases h3 : p.length = 0
        · rw [decide_f (by omega), cf]
          dsimp only
          rw [cf, hxe]
          exact key lf p hlf hp rfl
        · obtain ⟨r, e5, hr0, hr1⟩ := at_eq x1 hb1 (by omega) 1 2 (by decide) (by decide) (by decide) (by decide)
          rw [decide_t (by omega), ct, e5, bs]
          dsimp only
          cases hr : (r == 0) with
          | false =>
            rw [cf, hxe]
            exact key lf p hlf hp rfl
          | true =>
            obtain ⟨r2, e6, hs0, hs1⟩ := at_eq x1 hb1 (by omega) 2 (p.length : Int) (by decide) (by decide) (by omega) (by omega)
            rw [ct, e6, bs, grd_of (gIx_t hs0 (by omega)), grd_of (gIx_t hk0 (by omega)), hxe]
            exact key x (setE (.str : Kd) p r2.toNat lf) hx (hp.set _ hlf) (setE_length (k := .str) p _ _)
end Go.Proofs.YtdpjbeeokimnaaaA
