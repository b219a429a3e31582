import Derived.Test.YtdpjbeeokimnaaaGreatDoorAWord
import Derived.Laws.BytesArg
import Derived.Lib.Strings
import Derived.Test.YtdpjbeeokimnaaaGreatDoorXaF2
import Derived.Lib.ItoaNum
/-
  Numbers, bytes and texts as the printed functions use them. No condition.
-/
namespace Go.Proofs.YtdpjbeeokimnaaaGreatDoorA
open Go
set_option linter.unusedVariables false
set_option linter.unusedSimpArgs false

/-! ### Guards -/
/-- These three hold by computing; stated so that a rewriting does not leave that to the kernel. -/
theorem bs {A B : Type} (a : A) (f : A → Option B) : Option.bind (some a) f = f a := id rfl
theorem ct {A : Type} (a b : A) : cond true a b = a := id rfl
theorem cf {A : Type} (a b : A) : cond false a b = b := id rfl
theorem grd_t {R : Type} (x : Option R) : grd true x = x := rfl
theorem grd_of {R : Type} {g : Bool} (h : g = true) (x : Option R) : grd g x = x := by rw [h]; rfl
theorem gIx_t {i : Int} {n : Nat} (h : 0 ≤ i) (h' : i < n) : gIx i n = true := by simp [gIx, h, h']
theorem gSl_t {l h : Int} {n : Nat} (h0 : 0 ≤ l) (h1 : l ≤ h) (h2 : h ≤ n) : gSl l h n = true := by simp [gSl, h0, h1, h2]
theorem gRm_t {n : Nat} (h : n ≤ 140737488355328) : gRm n = true := by simp [gRm, h]
theorem gCat_t {x y : ByteArray} (h : x.size + y.size ≤ 9223372036854775807) : gCat x y = true := by
  unfold gCat
  rw [decide_eq_true_iff]
  omega
theorem gSh_t {y : Int} (h : 0 ≤ y) : gSh y = true := by simp [gSh, h]
theorem gNz_t {y : Int} (h : y ≠ 0) : gNz y = true := by simp [gNz, h]
theorem gMk_t {l c : Int} {b : Nat} (h0 : 0 ≤ l) (h1 : l ≤ c) (h2 : c * b ≤ 140737488355328) : gMk l c b = true := by simp [gMk, h0, h1, h2]
theorem wr {x : Int} (h : -9223372036854775808 ≤ x) (h' : x ≤ 9223372036854775807) : IntKind.wrap .i64 x = x := by
  simp only [IntKind.wrap, IntKind.signed, IntKind.bits]
  simp
  omega
theorem wr8 {x : Int} (h : 0 ≤ x) (h' : x < 256) : IntKind.wrap .u8 x = x := by
  simp only [IntKind.wrap, IntKind.signed, IntKind.bits]
  simp
  omega
theorem wr8m (x : Int) : IntKind.wrap .u8 x = x % 256 := by
  simp only [IntKind.wrap, IntKind.signed, IntKind.bits]
  simp
theorem wr32m (x : Int) : IntKind.wrap .u32 x = x % 4294967296 := by
  simp only [IntKind.wrap, IntKind.signed, IntKind.bits]
  simp
theorem shr_eq {x : Int} {n : Int} (h0 : 0 ≤ n) (h1 : n ≤ 64) : iShr .i64 x n = x / 2 ^ n.toNat := by
  unfold iShr
  rw [show min n.toNat (IntKind.bits .i64) = n.toNat by simp [IntKind.bits]; omega]
  rw [Int.fdiv_eq_ediv_of_nonneg]
  exact Int.pow_nonneg (by decide)
theorem shr8 (x : Int) : iShr .i64 x 8 = x / 256 := by rw [shr_eq (by decide) (by decide)]; rfl
theorem tmod_pos {x y : Int} (h : 0 ≤ x) : Int.tmod x y = x % y := Int.tmod_eq_emod_of_nonneg h
theorem tdiv_pos {x y : Int} (h : 0 ≤ x) : Int.tdiv x y = x / y := Int.tdiv_eq_ediv_of_nonneg h

/-! ### Bytes -/
def IsBytes (l : List Int) : Prop := ∀ y ∈ l, 0 ≤ y ∧ y < 256
theorem IsBytes.nil : IsBytes [] := fun y h => by simp at h
theorem IsBytes.cons {a : Int} {l : List Int} (h0 : 0 ≤ a) (h1 : a < 256) (h : IsBytes l) : IsBytes (a :: l) := fun y hy => by
  rcases List.mem_cons.1 hy with rfl | hy
  · exact ⟨h0, h1⟩
  · exact h y hy
theorem IsBytes.append {l m : List Int} (h : IsBytes l) (h' : IsBytes m) : IsBytes (l ++ m) := fun y hy => (List.mem_append.1 hy).elim (h y) (h' y)
theorem IsBytes.left {l m : List Int} (h : IsBytes (l ++ m)) : IsBytes l := fun y hy => h y (List.mem_append.2 (.inl hy))
theorem IsBytes.drop {l : List Int} (h : IsBytes l) (n : Nat) : IsBytes (l.drop n) := fun y hy => h y (List.mem_of_mem_drop hy)
theorem IsBytes.take {l : List Int} (h : IsBytes l) (n : Nat) : IsBytes (l.take n) := fun y hy => h y (List.mem_of_mem_take hy)
theorem IsBytes.sub {l : List Int} (h : IsBytes l) (a b : Int) : IsBytes (sub l a b) := (h.take _).drop _
theorem IsBytes.get {l : List Int} (h : IsBytes l) {i : Nat} (hi : i < l.length) : 0 ≤ l[i] ∧ l[i] < 256 := h _ (List.getElem_mem _)
theorem IsBytes.bytesL (s : ByteArray) : IsBytes (bytesL s) := fun y hy => by
  obtain ⟨b, _, rfl⟩ := List.mem_map.1 hy
  have := b.toNat_lt
  omega
theorem ba_ext {a b : ByteArray} (h : a.data.toList = b.data.toList) : a = b := by
  obtain ⟨⟨l⟩⟩ := a
  obtain ⟨⟨m⟩⟩ := b
  simp at h
  subst h
  rfl
theorem strL_size (l : List Int) : (strL l).size = l.length := by
  show (List.toArray _).size = _
  simp
theorem bytesL_length (s : ByteArray) : (bytesL s).length = s.size := by simp [bytesL]
theorem strL_list (l : List Int) : (strL l).data.toList = l.map fun n => UInt8.ofNat n.toNat := by simp [strL]
theorem strL_bytesL (s : ByteArray) : strL (bytesL s) = s := by
  apply ba_ext
  rw [strL_list, bytesL, List.map_map]
  conv => rhs; rw [← List.map_id s.data.toList]
  apply List.map_congr_left
  intro b _
  simp
theorem bytesL_strL {l : List Int} (h : IsBytes l) : bytesL (strL l) = l := by
  unfold bytesL
  rw [strL_list, List.map_map]
  conv => rhs; rw [← List.map_id l]
  apply List.map_congr_left
  intro b hb
  have := h b hb
  simp
  omega
theorem strL_append (l m : List Int) : strL l ++ strL m = strL (l ++ m) := by
  apply ba_ext
  rw [ByteArray.data_append, Array.toList_append, strL_list, strL_list, strL_list, List.map_append]
theorem cut_strL (l : List Int) (a b : Int) : cut (strL l) a b = strL (sub l a b) := by
  apply ba_ext
  unfold cut sub
  rw [Lib.extract_data, strL_list, strL_list, ← List.map_drop, ← List.map_take, List.drop_take]
theorem byteAt_strL {l : List Int} (h : IsBytes l) {i : Int} (h0 : 0 ≤ i) (h1 : i < l.length) : byteAt (strL l) i = l.getD i.toNat 0 := by
  have hi : i.toNat < l.length := by omega
  have hs : i.toNat < (strL l).size := by rw [strL_size]; exact hi
  unfold byteAt
  rw [dif_pos hs]
  have e : (strL l)[i.toNat]'hs = UInt8.ofNat (l[i.toNat]).toNat := by
    show (strL l).data[i.toNat]'_ = _
    simp [strL]
  rw [e, List.getD_eq_getElem?_getD, List.getElem?_eq_getElem hi]
  have := h l[i.toNat] (List.getElem_mem _)
  simp
  omega
theorem sEq_iff {a b : ByteArray} : sEq a b = true ↔ a = b := by
  unfold sEq
  rw [beq_iff_eq]
  constructor
  · intro h
    apply ba_ext
    rwa [ByteArray.toList_eq, ByteArray.toList_eq] at h
  · rintro rfl; rfl
theorem sEq_self (a : ByteArray) : sEq a a = true := sEq_iff.2 rfl
/-! ### Rows -/
theorem sub_take {α : Type} (l : List α) (n : Int) : sub l 0 n = l.take n.toNat := by simp [sub]
theorem sub_drop {α : Type} (l : List α) (n : Int) {m : Int} (h : m = l.length) : sub l n m = l.drop n.toNat := by subst h; simp [sub]
theorem rdE_at {k : Kd} {l : List (El k)} {i : Nat} (h : i < l.length) : rdE k l i = l[i] := by
  unfold rdE
  rw [List.getD_eq_getElem?_getD, List.getElem?_eq_getElem h]
  rfl
theorem take_snoc {α : Type} {l : List α} {i : Nat} (h : i < l.length) : l.take (i + 1) = l.take i ++ [l[i]] := by
  rw [List.take_add_one, List.getElem?_eq_getElem h]
  rfl
theorem drop_cons {α : Type} {l : List α} {i : Nat} (h : i < l.length) : l.drop i = l[i] :: l.drop (i + 1) := List.drop_eq_getElem_cons h
theorem decide_t {p : Prop} [Decidable p] (h : p) : decide p = true := decide_eq_true h
theorem decide_f {p : Prop} [Decidable p] (h : ¬ p) : decide p = false := decide_eq_false h
end Go.Proofs.YtdpjbeeokimnaaaGreatDoorA

/-
  Numbers in bytes, and back: what the printed functions 'number', 'numberOf', 'within' compute. No condition.
-/
namespace Go.Proofs.YtdpjbeeokimnaaaGreatDoorA
open Go
set_option linter.unusedVariables false
set_option linter.unusedSimpArgs false

theorem fuel_gt {n : Nat} (h : n < 18446744073709551616) : ∃ m, fuel = n + m + 1 := ⟨fuel - n - 1, by rw [fuel_eq]; omega⟩
/-- A number in so many bytes, the highest first. -/
def beL (n : Int) : Nat → List Int
  | 0 => []
  | m + 1 => beL (n / 256) m ++ [n % 256]
theorem beL_length (n : Int) (m : Nat) : (beL n m).length = m := by
  induction m generalizing n with
  | zero => rfl
  | succ m ih => simp [beL, ih]
theorem beL_bytes (n : Int) (m : Nat) : IsBytes (beL n m) := by
  induction m generalizing n with
  | zero => exact IsBytes.nil
  | succ m ih => exact (ih _).append (IsBytes.cons (by omega) (by omega) IsBytes.nil)
theorem number_l1 {R : Type} (kk : List Int → Option R) : ∀ (j n : Nat) (x : Int) (out : List Int), j ≤ out.length → j < 1000 → j < n → i_number.l1 kk n x ((j : Int) - 1) out = kk (beL x j ++ out.drop j)
  | 0, n + 1, x, out, _, _, _ => by
    simp only [i_number.l1, decide_f (show ¬ ((0 : Nat) : Int) - 1 ≥ 0 by omega), cond_false]
    simp [beL]
  | j + 1, n + 1, x, out, h1, h2, h3 => by
    have e : (((j + 1 : Nat) : Int) - 1) = j := by omega
    rw [e]
    simp only [i_number.l1]
    rw [decide_t (by omega : (j : Int) ≥ 0), cond_true, grd_of (gIx_t (by omega) (by omega)), grd_of (gSh_t (by omega)), wr (by omega) (by omega), shr8, wr8m]
    rw [number_l1 kk j n (x / 256) _ (by simp [setE]; omega) (by omega) (by omega)]
    congr 1
    have hj : j < out.length := by omega
    simp only [setE, Int.toNat_natCast, beL, List.append_assoc]
    congr 1
    rw [List.drop_set_of_lt_drop hj]
where
  List.drop_set_of_lt_drop {out : List Int} {j : Nat} {a : Int} (hj : j < out.length) : (out.set j a).drop j = [a] ++ out.drop (j + 1) := by
    rw [List.drop_eq_getElem_cons (by simpa using hj), List.getElem_set_self, List.drop_set_of_lt (by omega)]
    rfl
theorem number_eq (x : Int) (m : Nat) (h : m < 1000) : i_number x m = some (strL (beL x m)) := by
  obtain ⟨q, hq⟩ := fuel_gt (n := m) (by omega)
  have hl : (List.replicate (Int.toNat (m : Int)) (0 : Int)).length = m := by simp
  unfold i_number i_number.F
  rw [grd_of (gMk_t (by omega) (by omega) (by omega)), wr (by omega) (by omega), number_l1 _ m fuel x _ (by omega) h (by omega)]
  congr 2
  rw [List.drop_of_length_le (by omega), List.append_nil]
theorem within_eq (n lo hi : Int) : i_within n lo hi = some (decide (lo ≤ n) && decide (n ≤ hi)) := by
  unfold i_within i_within.F
  by_cases h : n ≥ lo
  · simp [h]
  · simp [h]
theorem l01In_eq (n lo hi : Int) : s_l01In n lo hi = some (decide (lo ≤ n) && decide (n ≤ hi)) := by
  unfold s_l01In s_l01In.F
  by_cases h : n ≥ lo
  · simp [h]
  · simp [h]
end Go.Proofs.YtdpjbeeokimnaaaGreatDoorA

/-
  SHA-256: words, and a block of 64 bytes: the program's and the reference's. No condition.
-/
namespace Go.Proofs.YtdpjbeeokimnaaaGreatDoorA
open Go
set_option linter.unusedVariables false
set_option linter.unusedSimpArgs false

/-! ### Words -/
theorem bits32 (f : BitVec 32 → BitVec 32 → BitVec 32) (x y : Int) : bits .u32 f x y = ((f (BitVec.ofInt 32 x) (BitVec.ofInt 32 y)).toNat : Int) := by
  show IntKind.wrap .u32 ((f (BitVec.ofInt 32 x) (BitVec.ofInt 32 y)).toNat : Int) = _
  rw [wr32m]
  have := (f (BitVec.ofInt 32 x) (BitVec.ofInt 32 y)).isLt
  omega
theorem w32 (b : BitVec 32) : BitVec.ofInt 32 (b.toNat : Int) = b := by
  rw [BitVec.ofInt_natCast, BitVec.ofNat_toNat, BitVec.setWidth_eq]
theorem and32 (x y : Int) : iAnd .u32 x y = ((BitVec.ofInt 32 x &&& BitVec.ofInt 32 y).toNat : Int) := bits32 _ x y
theorem or32 (x y : Int) : iOr .u32 x y = ((BitVec.ofInt 32 x ||| BitVec.ofInt 32 y).toNat : Int) := bits32 _ x y
theorem xor32 (x y : Int) : iXor .u32 x y = ((BitVec.ofInt 32 x ^^^ BitVec.ofInt 32 y).toNat : Int) := bits32 _ x y
theorem or32_comm (x y : Int) : iOr .u32 x y = iOr .u32 y x := by rw [or32, or32, BitVec.or_comm]
theorem max32 : BitVec.ofInt 32 (IntKind.max .u32) = BitVec.allOnes 32 := by decide
theorem ch32 (e f g : Int) : iXor .u32 (iAnd .u32 e f) (iAnd .u32 (iXor .u32 (IntKind.max .u32) e) g) = iOr .u32 (iAnd .u32 e f) (iAnd .u32 (iXor .u32 (IntKind.max .u32) e) g) := by
  simp only [and32, or32, xor32, w32, max32]
  congr 2
  ext i hi
  simp only [BitVec.getElem_xor, BitVec.getElem_and, BitVec.getElem_or, BitVec.getElem_allOnes]
  cases (BitVec.ofInt 32 e)[i] <;> cases (BitVec.ofInt 32 f)[i] <;> cases (BitVec.ofInt 32 g)[i] <;> rfl
theorem maj32 (a b c : Int) : iXor .u32 (iXor .u32 (iAnd .u32 a b) (iAnd .u32 a c)) (iAnd .u32 b c) = iOr .u32 (iOr .u32 (iAnd .u32 a b) (iAnd .u32 a c)) (iAnd .u32 b c) := by
  simp only [and32, or32, xor32, w32]
  congr 2
  ext i hi
  simp only [BitVec.getElem_xor, BitVec.getElem_and, BitVec.getElem_or]
  cases (BitVec.ofInt 32 a)[i] <;> cases (BitVec.ofInt 32 b)[i] <;> cases (BitVec.ofInt 32 c)[i] <;> rfl
def rot (x b : Int) : Int := iOr .u32 (iShr .u32 x b) (iShl .u32 x (32 - b))
def Turns : List Int := [7, 18, 17, 19, 6, 11, 25, 2, 13, 22]
theorem rot_s (x b : Int) (h : b ∈ Turns) : s_l01Turn x b = some (rot x b) := by
  have h0 : 0 ≤ b ∧ b ≤ 32 := by
    simp only [Turns, List.mem_cons, List.mem_nil_iff, or_false] at h
    omega
  unfold s_l01Turn s_l01Turn.F
  have e : IntKind.wrap .u64 (32 - b) = 32 - b := by
    simp only [IntKind.wrap, IntKind.signed, IntKind.bits]
    simp
    omega
  rw [e, grd_of (gSh_t h0.1), grd_of (gSh_t (by omega))]
  rfl
theorem rot_i (x b : Int) (h : b ∈ Turns) : i_turned x b = some (rot x b) := by
  unfold i_turned i_turned.F math_bits_RotateLeft32 math_bits_RotateLeft32.F
  have e : iAnd .u64 (IntKind.wrap .u64 (IntKind.wrap .i64 (0 - b))) 31 = 32 - b ∧ IntKind.wrap .u64 (32 - (32 - b)) = b ∧ 0 ≤ b ∧ b ≤ 32 := by
    simp only [Turns, List.mem_cons, List.mem_nil_iff, or_false] at h
    rcases h with rfl | rfl | rfl | rfl | rfl | rfl | rfl | rfl | rfl | rfl <;> exact ⟨by decide, by decide, by decide, by decide⟩
  rw [e.1, e.2.1, grd_of (gSh_t (by omega)), grd_of (gSh_t e.2.2.1), bs, or32_comm]
  rfl

/-! ### Loops that step -/
def itF {S : Type} (step : Nat → S → S) : Nat → Nat → S → S
  | _, 0, s => s
  | i, m + 1, s => itF step (i + 1) m (step i s)
theorem it_loop {R S : Type} {L : Nat → Int → S → Option R} {N : Nat} {step : Nat → S → S} {fin : S → Option R} (Inv : S → Prop)
    (hs : ∀ n i s, i < N → Inv s → L (n + 1) (i : Int) s = L n ((i + 1 : Nat) : Int) (step i s) ∧ Inv (step i s)) (h0 : ∀ n s, Inv s → L (n + 1) (N : Int) s = fin s) :
    ∀ (m n i : Nat) (s : S), i + m = N → m < n → Inv s → L n i s = fin (itF step i m s) ∧ Inv (itF step i m s)
  | 0, n + 1, i, s, e, _, hi => by
    have : i = N := by omega
    subst this
    exact ⟨h0 n s hi, hi⟩
  | m + 1, n + 1, i, s, e, hn, hi => by
    obtain ⟨h1, h2⟩ := hs n i s (by omega) hi
    rw [h1]
    exact it_loop Inv hs h0 m n (i + 1) _ (by omega) (by omega) h2
theorem itF_congr {S : Type} {step step' : Nat → S → S} (Inv : S → Prop) : ∀ (m i : Nat) (s : S), (∀ j s, i ≤ j → j < i + m → Inv s → step j s = step' j s ∧ Inv (step j s)) → Inv s → itF step i m s = itF step' i m s ∧ Inv (itF step i m s)
  | 0, i, s, h, hi => ⟨rfl, hi⟩
  | m + 1, i, s, h, hi => by
    obtain ⟨h1, h2⟩ := h i s (Nat.le_refl _) (by omega) hi
    have := itF_congr Inv m (i + 1) (step i s) (fun j s hj hj' hs => h j s (by omega) (by omega) hs) h2
    refine ⟨?_, this.2⟩
    show itF step (i + 1) m (step i s) = itF step' (i + 1) m (step' i s)
    rw [this.1, h1]
theorem itF_add {S : Type} (step : Nat → S → S) : ∀ (m k i : Nat) (s : S), itF step i (m + k) s = itF step (i + m) k (itF step i m s)
  | 0, k, i, s => by rw [Nat.zero_add]; rfl
  | m + 1, k, i, s => by
    rw [show m + 1 + k = (m + k) + 1 by omega, show i + (m + 1) = (i + 1) + m by omega]
    exact itF_add step m k (i + 1) (step i s)

/-! ### The words of a block -/
abbrev k32 : Kd := .int .u32
def wB (b : List Int) (i : Nat) : Int :=
  iOr .u32 (iOr .u32 (iOr .u32 (iShl .u32 (IntKind.wrap .u32 (b.getD (4 * i) 0)) 24) (iShl .u32 (IntKind.wrap .u32 (b.getD (4 * i + 1) 0)) 16)) (iShl .u32 (IntKind.wrap .u32 (b.getD (4 * i + 2) 0)) 8)) (IntKind.wrap .u32 (b.getD (4 * i + 3) 0))
def wX (w : List Int) (i : Nat) : Int :=
  IntKind.wrap .u32 ((IntKind.wrap .u32 ((IntKind.wrap .u32 ((rdE k32 w (i - 16)) + (iXor .u32 (iXor .u32 (rot (rdE k32 w (i - 15)) 7) (rot (rdE k32 w (i - 15)) 18)) (iShr .u32 (rdE k32 w (i - 15)) 3)))) + (rdE k32 w (i - 7)))) + (iXor .u32 (iXor .u32 (rot (rdE k32 w (i - 2)) 17) (rot (rdE k32 w (i - 2)) 19)) (iShr .u32 (rdE k32 w (i - 2)) 10)))
def stA (b : List Int) (i : Nat) (w : List Int) : List Int := setE k32 w i (wB b i)
def stX (i : Nat) (w : List Int) : List Int := setE k32 w i (wX w i)
def stW (b : List Int) (i : Nat) (w : List Int) : List Int := if i < 16 then stA b i w else stX i w
def wsOf (b : List Int) : List Int := itF stX 16 48 (itF (stA b) 0 16 (List.replicate 64 0))
theorem stA_len {b : List Int} {i : Nat} {w : List Int} (h : w.length = 64) : (stA b i w).length = 64 := by simp [stA, setE, h]
theorem stX_len {i : Nat} {w : List Int} (h : w.length = 64) : (stX i w).length = 64 := by simp [stX, setE, h]
theorem wsOf_eq (b : List Int) : itF (stW b) 0 64 (List.replicate 64 0) = wsOf b ∧ (wsOf b).length = 64 := by
  have h1 := itF_congr (step := stW b) (step' := stA b) (fun w => w.length = 64) 16 0 (List.replicate 64 0) (fun j s _ hj hs => by
    rw [stW, if_pos (by omega)]
    exact ⟨rfl, stA_len hs⟩) (by simp)
  have h2 := itF_congr (step := stW b) (step' := stX) (fun w => w.length = 64) 48 16 _ (fun j s hj _ hs => by
    rw [stW, if_neg (by omega)]
    exact ⟨rfl, stX_len hs⟩) h1.2
  have h3 := itF_add (stW b) 16 48 0 (List.replicate 64 0)
  rw [show 64 = 16 + 48 from rfl, h3]
  rw [show (0 : Nat) + 16 = 16 from rfl]
  rw [h2.1, h1.1] at *
  exact ⟨rfl, h2.2⟩
theorem t7 : (7 : Int) ∈ Turns := by decide
theorem t18 : (18 : Int) ∈ Turns := by decide
theorem t17 : (17 : Int) ∈ Turns := by decide
theorem t19 : (19 : Int) ∈ Turns := by decide
theorem t6 : (6 : Int) ∈ Turns := by decide
theorem t11 : (11 : Int) ∈ Turns := by decide
theorem t25 : (25 : Int) ∈ Turns := by decide
theorem t2 : (2 : Int) ∈ Turns := by decide
theorem t13 : (13 : Int) ∈ Turns := by decide
theorem t22 : (22 : Int) ∈ Turns := by decide
theorem gSh_l {x : Int} (h : 0 ≤ x) {R : Type} (r : Option R) : grd (gSh x) r = r := grd_of (gSh_t h) r
theorem wordsOf_eq (b : List Int) (hb : IsBytes b) (hl : b.length = 64) : i_wordsOf (strL b) = some (wsOf b) := by
  unfold i_wordsOf i_wordsOf.F
  have key := it_loop (L := fun n i w => i_wordsOf.l1 (fun l w => some w) n (strL b) i (List.replicate 64 (0 : Int)) w) (N := 64) (step := stW b) (fin := fun w => some w) (fun w => w.length = 64) ?_ ?_ 64 fuel 0 (List.replicate 64 0) (by omega) (by rw [fuel_eq]; omega) (by simp)
  · rw [wsOf_eq b |>.1] at key
    exact key.1
  · intro n i w hi hw
    have hsz : (strL b).size = 64 := by rw [strL_size, hl]
    simp only [i_wordsOf.l1]
    rw [decide_t (by omega), ct]
    by_cases h16 : i < 16
    · have e4 : IntKind.wrap .i64 (4 * (i : Int)) = ((4 * i : Nat) : Int) := by rw [wr (by omega) (by omega)]; omega
      have e5 : IntKind.wrap .i64 (((4 * i : Nat) : Int) + 1) = ((4 * i + 1 : Nat) : Int) := by rw [wr (by omega) (by omega)]; omega
      have e6 : IntKind.wrap .i64 (((4 * i : Nat) : Int) + 2) = ((4 * i + 2 : Nat) : Int) := by rw [wr (by omega) (by omega)]; omega
      have e7 : IntKind.wrap .i64 (((4 * i : Nat) : Int) + 3) = ((4 * i + 3 : Nat) : Int) := by rw [wr (by omega) (by omega)]; omega
      rw [decide_t (by omega), ct, e4, e5, e6, e7, hsz, grd_of (gIx_t (by omega) (by omega)), gSh_l (by decide), grd_of (gIx_t (by omega) (by omega)), gSh_l (by decide), grd_of (gIx_t (by omega) (by omega)), gSh_l (by decide), grd_of (gIx_t (by omega) (by omega)), grd_of (gIx_t (by omega) (by omega))]
      rw [byteAt_strL hb (by omega) (by omega), byteAt_strL hb (by omega) (by omega), byteAt_strL hb (by omega) (by omega), byteAt_strL hb (by omega) (by omega), wr (x := (i : Int) + 1) (by omega) (by omega), show ((i : Int) + 1) = ((i + 1 : Nat) : Int) by omega]
      simp only [Int.toNat_natCast]
      rw [stW, if_pos h16]
      exact ⟨rfl, stA_len hw⟩
    · rw [decide_f (by omega), cf, wr (x := (i : Int) - 15) (by omega) (by omega), wr (x := (i : Int) - 2) (by omega) (by omega), wr (x := (i : Int) - 16) (by omega) (by omega), wr (x := (i : Int) - 7) (by omega) (by omega)]
      rw [show ((i : Int) - 15).toNat = i - 15 by omega, show ((i : Int) - 2).toNat = i - 2 by omega, show ((i : Int) - 16).toNat = i - 16 by omega, show ((i : Int) - 7).toNat = i - 7 by omega]
      rw [grd_of (gIx_t (by omega) (by omega)), grd_of (gIx_t (by omega) (by omega)), rot_i _ _ t7, bs, rot_i _ _ t18, bs, gSh_l (by decide), rot_i _ _ t17, bs, rot_i _ _ t19, bs, gSh_l (by decide), grd_of (gIx_t (by omega) (by omega)), grd_of (gIx_t (by omega) (by omega)), grd_of (gIx_t (by omega) (by omega)), wr (x := (i : Int) + 1) (by omega) (by omega), show ((i : Int) + 1) = ((i + 1 : Nat) : Int) by omega, Int.toNat_natCast]
      rw [stW, if_neg h16]
      exact ⟨rfl, stX_len hw⟩
  · intro n w hw
    simp only [i_wordsOf.l1]
    rw [decide_f (by omega), cf]
end Go.Proofs.YtdpjbeeokimnaaaGreatDoorA

/-
  SHA-256: a block taken into a state: the program's and the reference's. No condition.
-/
namespace Go.Proofs.YtdpjbeeokimnaaaGreatDoorA
open Go
set_option linter.unusedVariables false
set_option linter.unusedSimpArgs false

def rP (v k w : List Int) (i : Nat) : Int :=
  IntKind.wrap .u32 ((IntKind.wrap .u32 ((IntKind.wrap .u32 ((IntKind.wrap .u32 ((rdE k32 v 7) + (iXor .u32 (iXor .u32 (rot (rdE k32 v 4) 6) (rot (rdE k32 v 4) 11)) (rot (rdE k32 v 4) 25)))) + (iOr .u32 (iAnd .u32 (rdE k32 v 4) (rdE k32 v 5)) (iAnd .u32 (iXor .u32 (IntKind.max .u32) (rdE k32 v 4)) (rdE k32 v 6))))) + (rdE k32 k i))) + (rdE k32 w i))
def rQ (v : List Int) : Int :=
  IntKind.wrap .u32 ((iXor .u32 (iXor .u32 (rot (rdE k32 v 0) 2) (rot (rdE k32 v 0) 13)) (rot (rdE k32 v 0) 22)) + (iOr .u32 (iOr .u32 (iAnd .u32 (rdE k32 v 0) (rdE k32 v 1)) (iAnd .u32 (rdE k32 v 0) (rdE k32 v 2))) (iAnd .u32 (rdE k32 v 1) (rdE k32 v 2))))
def stV (k w : List Int) (i : Nat) (v : List Int) : List Int :=
  [IntKind.wrap .u32 (rP v k w i + rQ v), rdE k32 v 0, rdE k32 v 1, rdE k32 v 2, IntKind.wrap .u32 (rdE k32 v 3 + rP v k w i), rdE k32 v 4, rdE k32 v 5, rdE k32 v 6]
def rounds (h k b : List Int) : List Int := itF (stV k (wsOf b)) 0 64 h
def addW (h v : List Int) : List Int :=
  [IntKind.wrap .u32 (rdE k32 h 0 + rdE k32 v 0), IntKind.wrap .u32 (rdE k32 h 1 + rdE k32 v 1), IntKind.wrap .u32 (rdE k32 h 2 + rdE k32 v 2), IntKind.wrap .u32 (rdE k32 h 3 + rdE k32 v 3), IntKind.wrap .u32 (rdE k32 h 4 + rdE k32 v 4), IntKind.wrap .u32 (rdE k32 h 5 + rdE k32 v 5), IntKind.wrap .u32 (rdE k32 h 6 + rdE k32 v 6), IntKind.wrap .u32 (rdE k32 h 7 + rdE k32 v 7)]
/-- What a block makes of a state. -/
def blockF (h k b : List Int) : List Int := addW h (rounds h k b)
theorem eight {l : List Int} (h : l.length = 8) : ∃ a b c d e f g i, l = [a, b, c, d, e, f, g, i] := by
  match l, h with
  | [a, b, c, d, e, f, g, i], _ => exact ⟨_, _, _, _, _, _, _, _, rfl⟩
theorem fuel9 : ∃ q, fuel = q + 9 := ⟨fuel - 9, by rw [fuel_eq]⟩
theorem rounds_len {h k b : List Int} (hh : h.length = 8) : (rounds h k b).length = 8 := (itF_congr (step := stV k (wsOf b)) (step' := stV k (wsOf b)) (fun v => v.length = 8) 64 0 h (fun _ _ _ _ _ => ⟨rfl, rfl⟩) hh).2
theorem blockHash_eq (h k b : List Int) (hb : IsBytes b) (hh : h.length = 8) (hk : k.length = 64) (hl : b.length = 64) : i_blockHash h k (strL b) = some (blockF h k b) := by
  rw [i_blockHash_eq]
  unfold i_blockHash.F
  rw [wordsOf_eq b hb hl, bs]
  have hw := (wsOf_eq b).2
  have key := it_loop (L := fun n i v => i_blockHash.l1 (fun words1 l v => i_blockHash.l2 (fun l1 v1 => some v1) fuel (0 : Int) words1 l v) n i h k (List.replicate 8 (0 : Int)) v (wsOf b)) (N := 64) (step := stV k (wsOf b)) (fin := fun v => i_blockHash.l2 (fun l1 v1 => some v1) fuel (0 : Int) h (List.replicate 8 (0 : Int)) v) (fun v => v.length = 8) ?_ ?_ 64 fuel 0 h (by omega) (by rw [fuel_eq]; omega) hh
  · obtain ⟨h1, h2⟩ := key
    refine h1.trans ?_
    show i_blockHash.l2 (fun l1 v1 => some v1) fuel (0 : Int) h (List.replicate 8 (0 : Int)) (rounds h k b) = some (addW h (rounds h k b))
    obtain ⟨a0, a1, a2, a3, a4, a5, a6, a7, hv⟩ := eight (rounds_len (k := k) (b := b) hh)
    obtain ⟨b0, b1, b2, b3, b4, b5, b6, b7, rfl⟩ := eight hh
    rw [hv]
    obtain ⟨q, hq⟩ := fuel9
    rw [hq]
    simp only [i_blockHash.l2]
    have c : ∀ a b : Int, IntKind.wrap .u32 (a + b) = IntKind.wrap .u32 (b + a) := fun a b => by rw [Int.add_comm]
    show some [IntKind.wrap .u32 (a0 + b0), IntKind.wrap .u32 (a1 + b1), IntKind.wrap .u32 (a2 + b2), IntKind.wrap .u32 (a3 + b3), IntKind.wrap .u32 (a4 + b4), IntKind.wrap .u32 (a5 + b5), IntKind.wrap .u32 (a6 + b6), IntKind.wrap .u32 (a7 + b7)] = some [IntKind.wrap .u32 (b0 + a0), IntKind.wrap .u32 (b1 + a1), IntKind.wrap .u32 (b2 + a2), IntKind.wrap .u32 (b3 + a3), IntKind.wrap .u32 (b4 + a4), IntKind.wrap .u32 (b5 + a5), IntKind.wrap .u32 (b6 + a6), IntKind.wrap .u32 (b7 + a7)]
    rw [c a0, c a1, c a2, c a3, c a4, c a5, c a6, c a7]
  · intro n i v hi hv
    simp only [i_blockHash.l1]
    rw [decide_t (by omega), ct]
    rw [grd_of (gIx_t (by omega) (by omega)), grd_of (gIx_t (by omega) (by omega)), grd_of (gIx_t (by omega) (by omega)), grd_of (gIx_t (by omega) (by omega)), grd_of (gIx_t (by omega) (by omega)), grd_of (gIx_t (by omega) (by omega)), grd_of (gIx_t (by omega) (by omega))]
    rw [rot_i _ _ t6, bs, rot_i _ _ t11, bs, rot_i _ _ t25, bs, grd_of (gIx_t (by omega) (by omega)), grd_of (gIx_t (by omega) (by omega)), rot_i _ _ t2, bs, rot_i _ _ t13, bs, rot_i _ _ t22, bs, grd_of (gIx_t (by omega) (by omega)), wr (x := (i : Int) + 1) (by omega) (by omega), show ((i : Int) + 1) = ((i + 1 : Nat) : Int) by omega, Int.toNat_natCast]
    exact ⟨rfl, rfl⟩
  · intro n v hv
    simp only [i_blockHash.l1]
    rw [decide_f (by omega), cf]
theorem block_s (h b k : List Int) (hb : IsBytes b) (hh : h.length = 8) (hk : k.length = 64) (hl : b.length = 64) : s_l01Block h b k = some (blockF h k b) := by
  rw [s_l01Block_eq]
  unfold s_l01Block.F
  rw [grd_of (gMk_t (by decide) (by decide) (by decide))]
  have l1 := fun (kke : List Int → List Int → List Int → Option (List Int)) => it_loop (L := fun n i w => s_l01Block.l1 kke n b k i h w) (N := 16) (step := stA b) (fin := fun w => kke k h w) (fun w => w.length = 64) (by
    intro n i w hi hw
    have hw' : List.length (α := El k32) w = 64 := hw
    have e4 : IntKind.wrap .i64 (4 * (i : Int)) = ((4 * i : Nat) : Int) := by rw [wr (by omega) (by omega)]; omega
    have e5 : IntKind.wrap .i64 (((4 * i : Nat) : Int) + 1) = ((4 * i + 1 : Nat) : Int) := by rw [wr (by omega) (by omega)]; omega
    have e6 : IntKind.wrap .i64 (((4 * i : Nat) : Int) + 2) = ((4 * i + 2 : Nat) : Int) := by rw [wr (by omega) (by omega)]; omega
    have e7 : IntKind.wrap .i64 (((4 * i : Nat) : Int) + 3) = ((4 * i + 3 : Nat) : Int) := by rw [wr (by omega) (by omega)]; omega
    simp only [s_l01Block.l1]
    rw [decide_t (by omega), ct, e4, e5, e6, e7, grd_of (gIx_t (by omega) (by omega)), gSh_l (by decide), grd_of (gIx_t (by omega) (by omega)), gSh_l (by decide), grd_of (gIx_t (by omega) (by omega)), gSh_l (by decide), grd_of (gIx_t (by omega) (by omega)), grd_of (gIx_t (by omega) (by omega)), wr (x := (i : Int) + 1) (by omega) (by omega), show ((i : Int) + 1) = ((i + 1 : Nat) : Int) by omega]
    simp only [Int.toNat_natCast]
    exact ⟨rfl, stA_len hw⟩) (by
    intro n w hw
    simp only [s_l01Block.l1]
    rw [decide_f (by omega), cf]) 16 fuel 0 (List.replicate 64 0) (by omega) (by rw [fuel_eq]; omega) (by simp)
  have l2 := fun (kke : List Int → List Int → List Int → Option (List Int)) (w0 : List Int) (h0 : w0.length = 64) => it_loop (L := fun n j w => s_l01Block.l2 kke n k (j + 16) h w) (N := 48) (step := fun j w => stX (j + 16) w) (fin := fun w => kke k h w) (fun w => w.length = 64) (by
    intro n j w hj hw
    have hw' : List.length (α := El k32) w = 64 := hw
    obtain ⟨i, hi⟩ : ∃ i, i = j + 16 := ⟨_, rfl⟩
    rw [show ((j : Int) + 16) = (i : Int) by omega, show (((j + 1 : Nat) : Int) + 16) = ((i + 1 : Nat) : Int) by omega, ← hi]
    simp only [s_l01Block.l2]
    rw [decide_t (by omega), ct, wr (x := (i : Int) - 15) (by omega) (by omega), wr (x := (i : Int) - 2) (by omega) (by omega), wr (x := (i : Int) - 16) (by omega) (by omega), wr (x := (i : Int) - 7) (by omega) (by omega)]
    rw [show ((i : Int) - 15).toNat = i - 15 by omega, show ((i : Int) - 2).toNat = i - 2 by omega, show ((i : Int) - 16).toNat = i - 16 by omega, show ((i : Int) - 7).toNat = i - 7 by omega]
    rw [grd_of (gIx_t (by omega) (by omega)), grd_of (gIx_t (by omega) (by omega)), grd_of (gIx_t (by omega) (by omega)), rot_s _ _ t7, bs, rot_s _ _ t18, bs, gSh_l (by decide), grd_of (gIx_t (by omega) (by omega)), rot_s _ _ t17, bs, rot_s _ _ t19, bs, gSh_l (by decide), grd_of (gIx_t (by omega) (by omega)), wr (x := (i : Int) + 1) (by omega) (by omega), show ((i : Int) + 1) = ((i + 1 : Nat) : Int) by omega, Int.toNat_natCast]
    exact ⟨rfl, stX_len hw⟩) (by
    intro n w hw
    simp only [s_l01Block.l2]
    rw [decide_f (by omega), cf]) 48 fuel 0 w0 (by omega) (by rw [fuel_eq]; omega) h0
  have l3 := fun (kke : List Int → List Int → Option (List Int)) (w : List Int) (hw : w.length = 64) => it_loop (L := fun n i v => s_l01Block.l3 kke n k i h w v) (N := 64) (step := stV k w) (fin := fun v => kke h v) (fun v => v.length = 8) (by
    intro n i v hi hv
    have hw' : List.length (α := El k32) w = 64 := hw
    have hv' : List.length (α := El k32) v = 8 := hv
    have hk' : List.length (α := El k32) k = 64 := hk
    simp only [s_l01Block.l3]
    rw [decide_t (by omega), ct]
    rw [grd_of (gIx_t (by omega) (by omega)), grd_of (gIx_t (by omega) (by omega)), grd_of (gIx_t (by omega) (by omega)), rot_s _ _ t6, bs, rot_s _ _ t11, bs, rot_s _ _ t25, bs]
    rw [grd_of (gIx_t (by omega) (by omega)), grd_of (gIx_t (by omega) (by omega)), grd_of (gIx_t (by omega) (by omega)), grd_of (gIx_t (by omega) (by omega)), rot_s _ _ t2, bs, rot_s _ _ t13, bs, rot_s _ _ t22, bs]
    repeat rw [grd_of (gIx_t (by omega) (by omega))]
    rw [wr (x := (i : Int) + 1) (by omega) (by omega), show ((i : Int) + 1) = ((i + 1 : Nat) : Int) by omega, Int.toNat_natCast]
    simp only [ch32, maj32]
    exact ⟨rfl, rfl⟩) (by
    intro n v hv
    simp only [s_l01Block.l3]
    rw [decide_f (by omega), cf]) 64 fuel 0 h (by omega) (by rw [fuel_eq]; omega) hh
  have sh := fun (m i : Nat) (w : List Int) => show itF (fun j w => stX (j + 16) w) i m w = itF stX (i + 16) m w by
    induction m generalizing i w with
    | zero => rfl
    | succ m ih =>
      show itF (fun j w => stX (j + 16) w) (i + 1) m (stX (i + 16) w) = itF stX (i + 16 + 1) m (stX (i + 16) w)
      rw [ih, show i + 1 + 16 = i + 16 + 1 by omega]
  have hlen := (wsOf_eq b).2
  refine (l1 _).1.trans ?_
  have e2 := (l2 (fun k_2 h2 w1 => grd (gRm (((List.length ([] : List Int)) + (List.length h2)) * 4)) <| s_l01Block.l3 (fun h3 v => s_l01Block.l4 (fun h4 => some h4) fuel (0 : Int) h3 v) fuel k_2 (0 : Int) h2 w1 (([] : List Int) ++ h2)) _ (l1 (fun _ _ w => some w)).2).1
  rw [sh] at e2
  refine e2.trans ?_
  show grd (gRm (((List.length ([] : List Int)) + (List.length h)) * 4)) (s_l01Block.l3 (fun h3 v => s_l01Block.l4 (fun h4 => some h4) fuel (0 : Int) h3 v) fuel k (0 : Int) h (wsOf b) (([] : List Int) ++ h)) = _
  rw [grd_of (gRm_t (by simp; omega)), List.nil_append]
  refine (l3 _ (wsOf b) hlen).1.trans ?_
  show s_l01Block.l4 (fun h4 => some h4) fuel (0 : Int) h (rounds h k b) = some (addW h (rounds h k b))
  obtain ⟨a0, a1, a2, a3, a4, a5, a6, a7, hv⟩ := eight (rounds_len (k := k) (b := b) hh)
  obtain ⟨b0, b1, b2, b3, b4, b5, b6, b7, rfl⟩ := eight hh
  rw [hv]
  obtain ⟨q, hq⟩ := fuel9
  rw [hq]
  rfl
theorem blockF_len (h k b : List Int) : (blockF h k b).length = 8 := rfl
/-- Each word below 2^32. -/
def IsWords (l : List Int) : Prop := ∀ x ∈ l, 0 ≤ x ∧ x < 4294967296
theorem blockF_words (h k b : List Int) : IsWords (blockF h k b) := by
  intro x hx
  have : ∃ y, x = IntKind.wrap .u32 y := by
    unfold blockF addW at hx
    simp only [List.mem_cons, List.mem_nil_iff, or_false] at hx
    rcases hx with rfl | rfl | rfl | rfl | rfl | rfl | rfl | rfl <;> exact ⟨_, rfl⟩
  obtain ⟨y, rfl⟩ := this
  rw [wr32m]
  omega
end Go.Proofs.YtdpjbeeokimnaaaGreatDoorA

/-
  Readers of bytes: what the program's and the reference's take. No condition.
-/
namespace Go.Proofs.YtdpjbeeokimnaaaGreatDoorA
open Go
set_option linter.unusedVariables false
set_option linter.unusedSimpArgs false

/-! ### The reference's reader -/
end Go.Proofs.YtdpjbeeokimnaaaGreatDoorA

/-
  Searches along a row, for any of the printed loops that go so. No condition.
-/
namespace Go.Proofs.YtdpjbeeokimnaaaGreatDoorA
open Go
set_option linter.unusedVariables false
set_option linter.unusedSimpArgs false

/-- The first of which q holds, from j on. -/
theorem find_loop {k : Kd} {R : Type} {L : Nat → List (El k) → Int → Int → Option R} {f : El k → Option (Bool × Unit)} {kke : Option R} {kkr : Int → Option R}
    (hL : ∀ n s i j, L (n + 1) s i j = cond (decide (j < i)) (grd (gIx j (List.length s)) ((f (rdE k s (Int.toNat j))).bind fun r => cond r.1 (kkr j) (L n s i (IntKind.wrap .i64 (j + 1))))) kke)
    {q : El k → Bool} {l : List (El k)} (hl : l.length ≤ 9223372036854775806) (hf : ∀ x ∈ l, f x = some (q x, ())) :
    ∀ (m n j : Nat), j + m = l.length → m < n → L n l l.length j = match (l.drop j).findIdx? q with | none => kke | some d => kkr ((j + d : Nat) : Int)
  | 0, n + 1, j, e, _ => by
    rw [hL, decide_f (by omega : ¬ (j : Int) < l.length), cond_false, List.drop_of_length_le (by omega)]
    rfl
  | m + 1, n + 1, j, e, h => by
    have hj : j < l.length := by omega
    rw [hL, decide_t (by omega : (j : Int) < l.length), cond_true, grd_of (gIx_t (by omega) (by omega)), Int.toNat_natCast, rdE_at hj, hf _ (List.getElem_mem hj), Option.bind_some, drop_cons hj, List.findIdx?_cons]
    cases hq : q l[j] with
    | true => simp
    | false =>
      simp only [cond_false, Bool.false_eq_true, if_false]
      rw [wr (by omega) (by omega), show ((j : Int) + 1) = ((j + 1 : Nat) : Int) by omega, find_loop hL hl hf m n (j + 1) (by omega) (by omega)]
      cases (l.drop (j + 1)).findIdx? q with
      | none => rfl
      | some d => simp only [Option.map_some]; congr 1; omega
theorem findIdx_any {α : Type} (l : List α) (q : α → Bool) : (l.findIdx? q).isSome = l.any q := by
  induction l with
  | nil => rfl
  | cons x l ih =>
    rw [List.findIdx?_cons, List.any_cons]
    cases q x with
    | true => simp
    | false => simp [ih]
end Go.Proofs.YtdpjbeeokimnaaaGreatDoorA

/-
  Members of a group, read from bytes: the program's and the reference's test agree. No condition.
-/
namespace Go.Proofs.YtdpjbeeokimnaaaGreatDoorA
open Go
set_option linter.unusedVariables false
set_option linter.unusedSimpArgs false

end Go.Proofs.YtdpjbeeokimnaaaGreatDoorA

/-
  Commands and entries in bytes: the program's and the reference's. No condition.
-/
namespace Go.Proofs.YtdpjbeeokimnaaaGreatDoorA
open Go
set_option linter.unusedVariables false
set_option linter.unusedSimpArgs false

/-! ### Bytes of commands -/
theorem beL1 (n : Int) : beL n 1 = [n % 256] := rfl
theorem beL4 (n : Int) : beL n 4 = [n / 16777216 % 256, n / 65536 % 256, n / 256 % 256, n % 256] := by
  show [n / 256 / 256 / 256 % 256, n / 256 / 256 % 256, n / 256 % 256, n % 256] = _
  rw [show n / 256 / 256 / 256 = n / 16777216 by omega, show n / 256 / 256 = n / 65536 by omega]
theorem number1 (x : Int) : i_number x 1 = some (strL (beL x 1)) := number_eq x 1 (by omega)
theorem number4 (x : Int) : i_number x 4 = some (strL (beL x 4)) := number_eq x 4 (by omega)
/-! ### Commands read -/
theorem IsBytes.tail {a : Int} {l : List Int} (h : IsBytes (a :: l)) : IsBytes l := fun y hy => h y (List.mem_cons_of_mem _ hy)
end Go.Proofs.YtdpjbeeokimnaaaGreatDoorA

/-
  SHA-256: the program's hash is the reference's. No condition.
-/
namespace Go.Proofs.YtdpjbeeokimnaaaGreatDoorA
open Go
set_option linter.unusedVariables false
set_option linter.unusedSimpArgs false

def kK : List Int := (s_l01Consts).getD []
theorem consts_eq : s_l01Consts = some kK := rfl
theorem roundWords_eq : i_roundWords = some kK := by rw [i_roundWords_eq]; rfl
def kH : List Int := [1779033703, 3144134277, 1013904242, 2773480762, 1359893119, 2600822924, 528734635, 1541459225]
theorem hashWords_eq : i_hashWords = some kH := by rw [i_hashWords_eq]; rfl
theorem kK_len : kK.length = 64 := by decide
theorem kH_len : kH.length = 8 := by decide
theorem kH_words : IsWords kH := by
  intro x hx
  simp only [kH, List.mem_cons, List.mem_nil_iff, or_false] at hx
  omega
theorem it_loopI {R S : Type} {L : Nat → Int → S → Option R} {N : Nat} {step : Nat → S → S} {fin : S → Option R} (Inv : Nat → S → Prop)
    (hs : ∀ n i s, i < N → Inv i s → L (n + 1) (i : Int) s = L n ((i + 1 : Nat) : Int) (step i s) ∧ Inv (i + 1) (step i s)) (h0 : ∀ n s, Inv N s → L (n + 1) (N : Int) s = fin s) :
    ∀ (m n i : Nat) (s : S), i + m = N → m < n → Inv i s → L n i s = fin (itF step i m s) ∧ Inv N (itF step i m s)
  | 0, n + 1, i, s, e, _, hi => by
    have : i = N := by omega
    subst this
    exact ⟨h0 n s hi, hi⟩
  | m + 1, n + 1, i, s, e, hn, hi => by
    obtain ⟨h1, h2⟩ := hs n i s (by omega) hi
    rw [h1]
    exact it_loopI Inv hs h0 m n (i + 1) _ (by omega) (by omega) h2
/-- How many zeros. -/
def padZ (n : Nat) : Nat := (119 - n % 64) % 64
def padded (l : List Int) : List Int := ((l ++ [128]) ++ List.replicate (padZ l.length) 0) ++ beL (8 * (l.length : Int)) 8
theorem padded_len (l : List Int) : (padded l).length = 64 * ((l.length + 72) / 64) := by
  simp only [padded, List.length_append, List.length_singleton, List.length_replicate, beL_length, padZ]
  omega
theorem padded_bytes {l : List Int} (h : IsBytes l) : IsBytes (padded l) := by
  refine ((h.append (IsBytes.cons (by decide) (by decide) IsBytes.nil)).append fun y hy => ?_).append (beL_bytes _ _)
  rw [List.eq_of_mem_replicate hy]
  decide
def stH (all : List Int) (j : Nat) (h : List Int) : List Int := blockF h kK ((all.drop (64 * j)).take 64)
def stO (h : List Int) (i : Nat) (out : List Int) : List Int := out ++ beL (rdE k32 h i) 4
def shaO (h : List Int) : List Int := itF (stO h) 0 8 []
/-- THE HASH. -/
def sha (l : List Int) : List Int := shaO (itF (stH (padded l)) 0 ((l.length + 72) / 64) kH)
theorem shaO_eq (h : List Int) : shaO h = beL (rdE k32 h 0) 4 ++ beL (rdE k32 h 1) 4 ++ beL (rdE k32 h 2) 4 ++ beL (rdE k32 h 3) 4 ++ beL (rdE k32 h 4) 4 ++ beL (rdE k32 h 5) 4 ++ beL (rdE k32 h 6) 4 ++ beL (rdE k32 h 7) 4 := by
  simp only [shaO, itF, stO, List.nil_append]
theorem sha_len (l : List Int) : (sha l).length = 32 := by
  rw [sha, shaO_eq]
  simp only [List.length_append, beL_length]
theorem sha_bytes (l : List Int) : IsBytes (sha l) := by
  rw [sha, shaO_eq]
  exact (((((((beL_bytes _ _).append (beL_bytes _ _)).append (beL_bytes _ _)).append (beL_bytes _ _)).append (beL_bytes _ _)).append (beL_bytes _ _)).append (beL_bytes _ _)).append (beL_bytes _ _)
def HOk (h : List Int) : Prop := h.length = 8 ∧ IsWords h
theorem sub_block (all : List Int) (j : Nat) : sub all (64 * (j : Int)) (64 * (j : Int) + 64) = (all.drop (64 * j)).take 64 := by
  unfold sub
  rw [show (64 * (j : Int) + 64).toNat = 64 * j + 64 by omega, show (64 * (j : Int)).toNat = 64 * j by omega, List.drop_take, show 64 * j + 64 - 64 * j = 64 by omega]
theorem repeat_eq (z : Nat) (hz : z ≤ 100) : strings_Repeat (⟨#[0]⟩ : ByteArray) (z : Int) = some (strL (List.replicate z 0)) := by
  rw [strings_Repeat_eq]
  unfold strings_Repeat.F
  rw [grd_of (by
    rw [gRep_eq]
    have : ByteArray.size (⟨#[0]⟩ : ByteArray) = 1 := rfl
    exact decide_eq_true ⟨by omega, by omega, by rw [this]; omega⟩), repS_eq, Int.toNat_natCast]
  congr 1
  apply ba_ext
  rw [strL_list]
  show (Lib.repeatL [(0 : UInt8)] z).toArray.toList = _
  rw [List.map_replicate]
  clear hz
  show Lib.repeatL [(0 : UInt8)] z = List.replicate z (UInt8.ofNat (0 : Int).toNat)
  induction z with
  | zero => rfl
  | succ z ih =>
    rw [List.replicate_succ, ← ih]
    rfl
theorem byte4 {x : Int} (h0 : 0 ≤ x) (h1 : x < 4294967296) : [IntKind.wrap .u8 (iShr .u32 x 24), IntKind.wrap .u8 (iShr .u32 x 16), IntKind.wrap .u8 (iShr .u32 x 8), IntKind.wrap .u8 x] = beL x 4 := by
  have e : ∀ n : Int, 0 ≤ n → n ≤ 32 → iShr .u32 x n = x / 2 ^ n.toNat := fun n hn hn' => by
    unfold iShr
    rw [show min n.toNat (IntKind.bits .u32) = n.toNat by simp [IntKind.bits]; omega]
    rw [Int.fdiv_eq_ediv_of_nonneg]
    exact Int.pow_nonneg (by decide)
  rw [e 24 (by decide) (by decide), e 16 (by decide) (by decide), e 8 (by decide) (by decide), beL4]
  simp only [wr8m]
  rfl
theorem hash_i (l : List Int) (hb : IsBytes l) (hl : l.length ≤ 1000000000000) : i_hash (strL l) = some (strL (sha l)) := by
  rw [i_hash_eq]
  unfold i_hash.F
  have h128 : (⟨#[128]⟩ : ByteArray) = strL [128] := rfl
  have ez : Int.tmod (IntKind.wrap .i64 ((119 : Int) - Int.tmod (l.length : Int) 64)) 64 = (padZ l.length : Nat) := by
    rw [tmod_pos (x := (l.length : Int)) (by omega), wr (by omega) (by omega), tmod_pos (by omega)]
    unfold padZ
    omega
  rw [h128, grd_of (gCat_t (by rw [strL_size, strL_size]; simp; omega)), grd_of (gNz_t (by decide)), grd_of (gNz_t (by decide)), strL_size, ez, repeat_eq _ (by unfold padZ; omega), bs, strL_append]
  rw [grd_of (gCat_t (by rw [strL_size, strL_size]; simp [padZ]; omega)), wr (by omega) (by omega)]
  have hn := number_eq (8 * (l.length : Int)) 8 (by decide)
  rw [show (((8 : Nat) : Int)) = 8 from rfl] at hn
  rw [hn, bs, strL_append, grd_of (gCat_t (by rw [strL_size, strL_size]; simp [padZ, beL_length]; omega)), strL_append, hashWords_eq, bs, roundWords_eq, bs]
  show i_hash.l1 (fun words => i_hash.l2 (fun out => some out) fuel ByteArray.empty words (0 : Int)) fuel (strL (padded l)) (0 : Int) kH kK = _
  have hpl := padded_len l
  have hpb := padded_bytes hb
  have key := it_loop (L := fun n j h => i_hash.l1 (fun words => i_hash.l2 (fun out => some out) fuel ByteArray.empty words (0 : Int)) n (strL (padded l)) (64 * j) h kK) (N := (l.length + 72) / 64) (step := stH (padded l)) (fin := fun h => i_hash.l2 (fun out => some out) fuel ByteArray.empty h (0 : Int)) HOk ?_ ?_ ((l.length + 72) / 64) fuel 0 kH (by omega) (by rw [fuel_eq]; omega) ⟨kH_len, kH_words⟩
  · obtain ⟨h1, h2⟩ := key
    refine h1.trans ?_
    rw [sha]
    obtain ⟨hh, hhd⟩ : ∃ hh, hh = itF (stH (padded l)) 0 ((l.length + 72) / 64) kH := ⟨_, rfl⟩
    rw [← hhd] at h2 ⊢
    have k2 := it_loopI (L := fun n i out => i_hash.l2 (fun out => some out) n (strL out) hh i) (N := 8) (step := stO hh) (fin := fun out => some (strL out)) (fun i out => out.length = 4 * i) ?_ ?_ 8 fuel 0 [] (by omega) (by rw [fuel_eq]; omega) (by simp)
    · exact k2.1
    · intro n i out hi ho
      have hw := h2.2 _ (List.getElem_mem (show i < hh.length by rw [h2.1]; exact hi))
      simp only [i_hash.l2]
      rw [decide_t (by omega), ct, grd_of (gIx_t (by omega) (by omega)), Int.toNat_natCast, rdE_at (k := k32) (show i < hh.length by rw [h2.1]; exact hi), wr (by omega) (by omega), number4, bs, grd_of (gCat_t (by rw [strL_size, strL_size, beL_length]; omega)), strL_append, wr (by omega) (by omega), show ((i : Int) + 1) = ((i + 1 : Nat) : Int) by omega]
      refine ⟨?_, ?_⟩
      · rw [stO, rdE_at (k := k32) (show i < hh.length by rw [h2.1]; exact hi)]
      · simp only [stO, List.length_append, beL_length]
        omega
    · intro n out ho
      simp only [i_hash.l2]
      rw [decide_f (by omega), cf]
  · intro n j h hj hh
    have hj' : 64 * j + 64 ≤ (padded l).length := by rw [hpl]; omega
    have hpl' : (padded l).length ≤ 1000000000100 := by rw [hpl]; omega
    simp only [i_hash.l1]
    rw [strL_size, decide_t (by omega), ct, wr (by omega) (by omega), grd_of (gSl_t (by omega) (by omega) (by omega)), cut_strL, sub_block, blockHash_eq h kK _ ((hpb.drop _).take _) hh.1 kK_len (by simp; omega), bs, show (64 * (j : Int) + 64) = 64 * ((j + 1 : Nat) : Int) by omega]
    exact ⟨rfl, blockF_len _ _ _, blockF_words _ _ _⟩
  · intro n h hh
    simp only [i_hash.l1]
    rw [strL_size, hpl, decide_f (by omega), cf]
theorem pad_s (kke : List Int → List Int → List Int → Option ByteArray) (b h : List Int) : ∀ (m n : Nat) (acc : List Int), m < n → m < 64 → (acc.length + m) % 64 = 56 → acc.length + m ≤ 1000000001000 → s_l01Hash.l1 kke n b h acc = kke b h (acc ++ List.replicate m 0)
  | 0, n + 1, acc, _, _, e, hl => by
    simp only [s_l01Hash.l1]
    rw [grd_of (gNz_t (by decide)), tmod_pos (by omega), show ((((acc.length : Nat) : Int) % 64) != 56) = false from bne_eq_false_iff_eq.2 (by omega), cf]
    simp
  | m + 1, n + 1, acc, hn, hm, e, hl => by
    simp only [s_l01Hash.l1]
    rw [grd_of (gNz_t (by decide)), tmod_pos (by omega), show (((acc.length : Int) % 64) != 56) = true by simp; omega, ct, grd_of (gRm_t (by simp; omega))]
    rw [pad_s kke b h m n (acc ++ [0]) (by omega) (by omega) (by simp; omega) (by simp; omega), List.append_assoc]
    rfl
theorem len8 (x : Int) (acc : List Int) : itF (fun (j : Nat) (acc : List Int) => acc ++ [x / 2 ^ (8 * (7 - j)) % 256]) 0 8 acc = acc ++ beL x 8 := by
  simp only [itF, List.append_assoc]
  congr 1
  show [x / 2 ^ 56 % 256, x / 2 ^ 48 % 256, x / 2 ^ 40 % 256, x / 2 ^ 32 % 256, x / 2 ^ 24 % 256, x / 2 ^ 16 % 256, x / 2 ^ 8 % 256, x / 2 ^ 0 % 256] = [x / 256 / 256 / 256 / 256 / 256 / 256 / 256 % 256, x / 256 / 256 / 256 / 256 / 256 / 256 % 256, x / 256 / 256 / 256 / 256 / 256 % 256, x / 256 / 256 / 256 / 256 % 256, x / 256 / 256 / 256 % 256, x / 256 / 256 % 256, x / 256 % 256, x % 256]
  have e : ∀ k : Nat, (2 : Int) ^ k = 2 ^ k := fun _ => rfl
  rw [show (2 : Int) ^ 56 = 72057594037927936 by decide, show (2 : Int) ^ 48 = 281474976710656 by decide, show (2 : Int) ^ 40 = 1099511627776 by decide, show (2 : Int) ^ 32 = 4294967296 by decide, show (2 : Int) ^ 24 = 16777216 by decide, show (2 : Int) ^ 16 = 65536 by decide, show (2 : Int) ^ 8 = 256 by decide, show (2 : Int) ^ 0 = 1 by decide]
  simp only [Int.ediv_ediv_of_nonneg (show (0 : Int) ≤ 256 by decide), Int.ediv_one]
  simp
  omega
theorem hash_s (l : List Int) (hb : IsBytes l) (hl : l.length ≤ 1000000000000) : s_l01Hash l = some (strL (sha l)) := by
  rw [s_l01Hash_eq]
  unfold s_l01Hash.F
  rw [grd_of (gRm_t (by simp; omega)), grd_of (gRm_t (by simp; omega)), List.nil_append]
  rw [pad_s _ l _ (padZ l.length) fuel (l ++ [128]) (by rw [fuel_eq]; unfold padZ; omega) (by unfold padZ; omega) (by simp [padZ]; omega) (by simp [padZ]; omega)]
  have hpl := padded_len l
  have hpb := padded_bytes hb
  have e8 : IntKind.wrap .i64 (8 * (l.length : Int)) = 8 * (l.length : Int) := wr (by omega) (by omega)
  have key := fun (kke : List Int → List Int → Option ByteArray) => it_loopI (L := fun n j all => s_l01Hash.l2 kke n l (7 - j) kH all) (N := 8) (step := fun (j : Nat) (acc : List Int) => acc ++ [8 * (l.length : Int) / 2 ^ (8 * (7 - j)) % 256]) (fin := fun all => kke kH all) (fun i out => out.length ≤ 1000000001000 + i) (by
    intro n j acc hj ha
    have es : IntKind.wrap .u64 (IntKind.wrap .i64 (8 * (7 - (j : Int)))) = ((8 * (7 - j) : Nat) : Int) := by
      rw [wr (by omega) (by omega)]
      simp only [IntKind.wrap, IntKind.signed, IntKind.bits]
      simp
      omega
    simp only [s_l01Hash.l2]
    rw [decide_t (by omega), ct, es, grd_of (gSh_t (by omega)), grd_of (gRm_t (by simp; omega)), e8, shr_eq (by omega) (by omega), Int.toNat_natCast, wr8m, wr (by omega) (by omega), show (7 - (j : Int) - 1) = 7 - ((j + 1 : Nat) : Int) by omega]
    exact ⟨rfl, by simp; omega⟩) (by
    intro n acc ha
    simp only [s_l01Hash.l2]
    rw [decide_f (by omega), cf]) 8 fuel 0 ((l ++ [128]) ++ List.replicate (padZ l.length) 0) (by omega) (by rw [fuel_eq]; omega) (by simp [padZ]; omega)
  refine (key _).1.trans ?_
  rw [len8]
  show (s_l01Consts).bind (fun r => s_l01Hash.l3 (fun h2 => s_l01Hash.l4 (fun out => some (strL out)) fuel (0 : Int) h2 ([] : List Int)) fuel (padded l) (0 : Int) kH r) = _
  rw [consts_eq, bs]
  have k3 := it_loop (L := fun n j h => s_l01Hash.l3 (fun h2 => s_l01Hash.l4 (fun out => some (strL out)) fuel (0 : Int) h2 ([] : List Int)) n (padded l) (64 * j) h kK) (N := (l.length + 72) / 64) (step := stH (padded l)) (fin := fun h => s_l01Hash.l4 (fun out => some (strL out)) fuel (0 : Int) h ([] : List Int)) HOk ?_ ?_ ((l.length + 72) / 64) fuel 0 kH (by omega) (by rw [fuel_eq]; omega) ⟨kH_len, kH_words⟩
  · obtain ⟨h1, h2⟩ := k3
    refine h1.trans ?_
    rw [sha]
    obtain ⟨hh, hhd⟩ : ∃ hh, hh = itF (stH (padded l)) 0 ((l.length + 72) / 64) kH := ⟨_, rfl⟩
    rw [← hhd] at h2 ⊢
    have k2 := it_loopI (L := fun n i out => s_l01Hash.l4 (fun out => some (strL out)) n i hh out) (N := 8) (step := stO hh) (fin := fun out => some (strL out)) (fun i out => out.length = 4 * i) ?_ ?_ 8 fuel 0 [] (by omega) (by rw [fuel_eq]; omega) (by simp)
    · exact k2.1
    · intro n i out hi ho
      have hil : i < hh.length := by rw [h2.1]; exact hi
      have hil' : (i : Int) < (List.length (α := El k32) hh : Int) := by have : List.length (α := El k32) hh = 8 := h2.1; omega
      have hw := h2.2 _ (List.getElem_mem hil)
      simp only [s_l01Hash.l4]
      rw [decide_t (by omega), ct, grd_of (gIx_t (by omega) hil'), gSh_l (by decide), grd_of (gIx_t (by omega) hil'), gSh_l (by decide), grd_of (gIx_t (by omega) hil'), gSh_l (by decide), grd_of (gIx_t (by omega) hil'), grd_of (gRm_t (by simp; omega)), Int.toNat_natCast, rdE_at (k := k32) hil, byte4 hw.1 hw.2, wr (by omega) (by omega), show ((i : Int) + 1) = ((i + 1 : Nat) : Int) by omega]
      refine ⟨?_, ?_⟩
      · rw [stO, rdE_at (k := k32) hil]
      · simp only [stO, List.length_append, beL_length]
        omega
    · intro n out ho
      simp only [s_l01Hash.l4]
      rw [decide_f (by omega), cf]
  · intro n j h hj hh
    have hj' : 64 * j + 64 ≤ (padded l).length := by rw [hpl]; omega
    have hpl' : (padded l).length ≤ 1000000000100 := by rw [hpl]; omega
    simp only [s_l01Hash.l3]
    rw [decide_t (by omega), ct, wr (by omega) (by omega), grd_of (gSl_t (by omega) (by omega) (by omega)), sub_block, block_s h _ kK ((hpb.drop _).take _) hh.1 kK_len (by simp; omega), bs, show (64 * (j : Int) + 64) = 64 * ((j + 1 : Nat) : Int) by omega]
    exact ⟨rfl, blockF_len _ _ _, blockF_words _ _ _⟩
  · intro n h hh
    simp only [s_l01Hash.l3]
    rw [hpl, decide_f (by omega), cf]
end Go.Proofs.YtdpjbeeokimnaaaGreatDoorA

/-
  Loops of the laws' helpers: rows copied, held against each other, measured, marked. No condition.
-/
namespace Go.Proofs.YtdpjbeeokimnaaaGreatDoorA
open Go
set_option linter.unusedVariables false
set_option linter.unusedSimpArgs false

theorem fuel_big {n : Nat} (h : n < 18446744073709551616) : n < fuel := by rw [fuel_eq]; exact h
/-- Copying. -/
theorem copy_loop {k : Kd} {R : Type} {L : Nat → Int → List (El k) → Option R} {a : List (El k)} {fin : List (El k) → Option R}
    (hs : ∀ (n i : Nat) (out : List (El k)) (h : i < a.length), out.length = a.length → L (n + 1) i out = L n ((i + 1 : Nat) : Int) (out.set i a[i])) (h0 : ∀ n out, L (n + 1) a.length out = fin out) :
    ∀ (m n i : Nat) (out : List (El k)), i + m = a.length → m < n → out.length = a.length → out.take i = a.take i → L n i out = fin a
  | 0, n + 1, i, out, e, _, hl, ht => by
    have : i = a.length := by omega
    subst this
    rw [h0]
    congr 1
    rw [List.take_of_length_le (by omega), List.take_of_length_le (Nat.le_refl _)] at ht
    exact ht
  | m + 1, n + 1, i, out, e, hn, hl, ht => by
    have hi : i < a.length := by omega
    rw [hs n i out hi hl]
    refine copy_loop hs h0 m n (i + 1) _ (by omega) (by omega) (by simpa using hl) ?_
    rw [take_snoc (by simpa using (show i < out.length by omega)), take_snoc hi, List.getElem_set_self, List.take_set_of_le (Nat.le_refl _), ht]
/-- A loop of as many rounds as a row has elements, each of which goes on. -/
theorem pass_loop {R S : Type} {L : Nat → S → Int → Option R} {len : Nat} {step : S → Nat → S} {fin : S → Option R} (Inv : Nat → S → Prop)
    (hs : ∀ n s i, i < len → Inv i s → L (n + 1) s (i : Int) = L n (step s i) ((i + 1 : Nat) : Int)) (hI : ∀ s i, i < len → Inv i s → Inv (i + 1) (step s i)) (h0 : ∀ n s, Inv len s → L (n + 1) s (len : Int) = fin s) :
    ∀ (m n i : Nat) (s : S), i + m = len → m < n → Inv i s → ∃ s', L n s i = fin s' ∧ Inv len s'
  | 0, n + 1, i, s, e, _, hi => by
    have : i = len := by omega
    subst this
    exact ⟨s, h0 n s hi, hi⟩
  | m + 1, n + 1, i, s, e, hn, hi => by
    have h1 : i < len := by omega
    rw [hs n s i h1 hi]
    exact pass_loop Inv hs hI h0 m n (i + 1) _ (by omega) (by omega) (hI s i h1 hi)
end Go.Proofs.YtdpjbeeokimnaaaGreatDoorA

/-
  Ways up a tree of hashes: the program's prover and the reference's. No condition.
-/
namespace Go.Proofs.YtdpjbeeokimnaaaGreatDoorA
open Go
set_option linter.unusedVariables false
set_option linter.unusedSimpArgs false

def nodeL (a b : ByteArray) : List Int := 1 :: (bytesL a ++ bytesL b)
def nodeV (a b : ByteArray) : ByteArray := strL (sha (nodeL a b))
theorem nodeV_size (a b : ByteArray) : (nodeV a b).size = 32 := by rw [nodeV, strL_size, sha_len]
theorem nodeL_bytes (a b : ByteArray) : IsBytes (nodeL a b) := IsBytes.cons (by decide) (by decide) ((IsBytes.bytesL a).append (IsBytes.bytesL b))
theorem node_str (a b : ByteArray) : ((⟨#[1]⟩ : ByteArray) ++ a) ++ b = strL (nodeL a b) := by
  have h : (⟨#[1]⟩ : ByteArray) = strL [1] := rfl
  rw [h]
  conv => lhs; rw [← strL_bytesL a, ← strL_bytesL b]
  rw [strL_append, strL_append]
  rfl
theorem nodeHash_i (a b : ByteArray) (ha : a.size ≤ 1000000000) (hb : b.size ≤ 1000000000) : i_nodeHash a b = some (nodeV a b) := by
  unfold i_nodeHash i_nodeHash.F
  have h1 : ByteArray.size (⟨#[1]⟩ : ByteArray) = 1 := rfl
  rw [grd_of (gCat_t (by omega)), grd_of (gCat_t (by rw [ByteArray.size_append]; omega)), node_str, hash_i _ (nodeL_bytes a b) (by simp [nodeL, bytesL_length]; omega), bs]
  rfl
theorem node_s (a b : ByteArray) (ha : a.size ≤ 1000000000) (hb : b.size ≤ 1000000000) : s_l06Node a b = some (nodeV a b) := by
  unfold s_l06Node s_l06Node.F
  rw [grd_of (gRm_t (by simp [bytesL_length]; omega)), grd_of (gRm_t (by simp [bytesL_length]; omega))]
  have h : ([(1 : Int)] ++ bytesL a) ++ bytesL b = nodeL a b := by simp [nodeL]
  rw [h, hash_s _ (nodeL_bytes a b) (by simp [nodeL, bytesL_length]; omega), bs]
  rfl
theorem half_loop {R R' : Type} (kke : Int → Option R) (kke' : Int → Option R') (N : Int) (hN : N ≤ 1000000000) : ∀ (m n : Nat) (k : Int), 1 ≤ k → k < N → N - k ≤ m → m < n →
    ∃ r, i_split.l1 kke n N k = kke r ∧ s_l06Half.l1 kke' n N k = kke' r ∧ 1 ≤ r ∧ r < N
  | 0, n, k, h1, h2, h3, h4 => by omega
  | m + 1, n + 1, k, h1, h2, h3, h4 => by
    simp only [i_split.l1, s_l06Half.l1]
    rw [wr (x := 2 * k) (by omega) (by omega)]
    by_cases h : 2 * k < N
    · rw [decide_t h, ct, ct, wr (x := k * 2) (by omega) (by omega)]
      exact half_loop kke kke' N hN m n (k * 2) (by omega) (by omega) (by omega) (by omega)
    · rw [decide_f h, cf, cf]
      exact ⟨k, rfl, rfl, h1, h2⟩
noncomputable def half (N : Int) : Int := (i_split N).getD 0
theorem half_eq (N : Int) (h : 2 ≤ N) (hN : N ≤ 1000000000) : i_split N = some (half N) ∧ s_l06Half N = some (half N) ∧ 1 ≤ half N ∧ half N < N := by
  obtain ⟨r, h1, h2, h3, h4⟩ := half_loop (fun k => some k) (fun k => some k) N hN N.toNat fuel 1 (by decide) (by omega) (by omega) (by rw [fuel_eq]; omega)
  have h5 : i_split N = some r := h1
  have h6 : s_l06Half N = some r := h2
  have h7 : half N = r := by rw [half, h5]; rfl
  rw [h7]
  exact ⟨h5, h6, h3, h4⟩
/-- The way from a leaf up, the lowest step first: whether the leaf is on the left. -/
noncomputable def ways : Nat → Int → Int → List Bool
  | 0, _, _ => []
  | f + 1, at_, size => if size ≤ 1 then [] else if at_ < half size then ways f at_ (half size) ++ [true] else ways f (at_ - half size) (size - half size) ++ [false]
def foldW : ByteArray → List Bool → List ByteArray → ByteArray
  | own, d :: ds, p :: ps => foldW (if d then nodeV own p else nodeV p own) ds ps
  | own, _, _ => own
theorem foldW_snoc (d : Bool) (p : ByteArray) : ∀ (ds : List Bool) (ps : List ByteArray) (own : ByteArray), ds.length = ps.length → foldW own (ds ++ [d]) (ps ++ [p]) = if d then nodeV (foldW own ds ps) p else nodeV p (foldW own ds ps)
  | [], [], own, _ => rfl
  | [], _ :: _, own, h => by simp at h
  | _ :: _, [], own, h => by simp at h
  | e :: ds, q :: ps, own, h => foldW_snoc d p ds ps _ (by simpa using h)
/-- What is hashed on the way up, from the lowest on. -/
def inputsW : ByteArray → List Bool → List ByteArray → List ByteArray
  | own, d :: ds, p :: ps => strL (if d then nodeL own p else nodeL p own) :: inputsW (if d then nodeV own p else nodeV p own) ds ps
  | _, _, _ => []
theorem inputsW_snoc (d : Bool) (p : ByteArray) : ∀ (ds : List Bool) (ps : List ByteArray) (own : ByteArray), ds.length = ps.length → inputsW own (ds ++ [d]) (ps ++ [p]) = inputsW own ds ps ++ [strL (if d then nodeL (foldW own ds ps) p else nodeL p (foldW own ds ps))]
  | [], [], own, _ => rfl
  | [], _ :: _, own, h => by simp at h
  | _ :: _, [], own, h => by simp at h
  | e :: ds, q :: ps, own, h => congrArg (strL (if e then nodeL own q else nodeL q own) :: ·) (inputsW_snoc d p ds ps _ (by simpa using h))
theorem pnext_eq (proof : List ByteArray) (bad : Bool) (steps : List ByteArray) (h : proof.length ≤ 1000000000) : i_prover_next proof bad steps = some (proof.headD ByteArray.empty, proof.tail, bad || proof.isEmpty, steps) := by
  unfold i_prover_next i_prover_next.F
  cases proof with
  | nil => simp
  | cons p ps =>
    rw [show ((List.length (p :: ps) : Int) == 0) = false by simp; omega, cf, grd_of (gIx_t (by decide) (by simp)), grd_of (gSl_t (by decide) (by simp; omega) (by omega)), sub_drop _ _ rfl]
    simp
    rfl
theorem pnode_eq (proof : List ByteArray) (bad : Bool) (steps : List ByteArray) (a b : ByteArray) (ha : a.size ≤ 1000000000) (hb : b.size ≤ 1000000000) (hs : steps.length ≤ 1000000000) : i_prover_node proof bad steps a b = some (nodeV a b, proof, bad, steps ++ [strL (nodeL a b)]) := by
  unfold i_prover_node i_prover_node.F
  have h1 : ByteArray.size (⟨#[1]⟩ : ByteArray) = 1 := rfl
  rw [grd_of (gCat_t (by omega)), grd_of (gCat_t (by rw [ByteArray.size_append]; omega)), grd_of (gRm_t (by simp; omega)), nodeHash_i a b ha hb, bs, node_str]
def Small (p : List ByteArray) : Prop := p.length ≤ 100000000 ∧ ∀ s ∈ p, s.size ≤ 1000000
theorem Small.head {p : List ByteArray} (h : Small p) : (p.headD ByteArray.empty).size ≤ 1000000 := by
  cases p with
  | nil => exact Nat.zero_le _
  | cons x l => exact h.2 x (by simp)
theorem Small.drop {p : List ByteArray} (h : Small p) (n : Nat) : Small (p.drop n) := ⟨by have := h.1; simp; omega, fun s hs => h.2 s (List.mem_of_mem_drop hs)⟩
theorem drop_headD {p : List ByteArray} {n : Nat} (h : n < p.length) : (p.drop n).headD ByteArray.empty = p[n] := by rw [drop_cons h]; rfl
theorem incl_i (leaf : ByteArray) (hleaf : leaf.size ≤ 1000000) : ∀ (m fu : Nat) (at_ size : Int) (proof : List ByteArray) (bad : Bool) (steps : List ByteArray), size ≤ m → m < fu → m ≤ 1000000 → at_ ≤ 1000000 → -1000000 ≤ at_ - size → Small proof → steps.length + m ≤ 100000000 →
    ∃ own st, i_prover_inclusion fu proof bad steps leaf at_ size = some (own, proof.drop (ways m at_ size).length, bad || decide (proof.length < (ways m at_ size).length), st) ∧ own.size ≤ 1000000 ∧ st.length = steps.length + (ways m at_ size).length ∧ (ways m at_ size).length ≤ m ∧
      ((ways m at_ size).length ≤ proof.length → own = foldW leaf (ways m at_ size) (proof.take (ways m at_ size).length) ∧ st = steps ++ inputsW leaf (ways m at_ size) (proof.take (ways m at_ size).length))
  | 0, fu + 1, at_, size, proof, bad, steps, h1, h2, h3, h4, h5, hp, hst => by
    unfold i_prover_inclusion i_prover_inclusion.F
    rw [decide_t (by omega), ct]
    exact ⟨leaf, steps, by simp [ways], hleaf, rfl, Nat.le_refl _, fun _ => by simp [ways, foldW, inputsW]⟩
  | m + 1, fu + 1, at_, size, proof, bad, steps, h1, h2, h3, h4, h5, hp, hst => by
    unfold i_prover_inclusion i_prover_inclusion.F
    by_cases hz : size ≤ 1
    · rw [decide_t hz, ct]
      have : ways (m + 1) at_ size = [] := by simp [ways, hz]
      rw [this]
      exact ⟨leaf, steps, by simp, hleaf, rfl, by simp, fun _ => by simp [foldW, inputsW]⟩
    · obtain ⟨e1, _, e3, e4⟩ := half_eq size (by omega) (by omega)
      rw [decide_f hz, cf, e1, bs]
      have hpl := hp.1
      by_cases ha : at_ < half size
      · obtain ⟨own, st, i1, i2, i3, i4, i5⟩ := incl_i leaf hleaf m fu at_ (half size) proof bad steps (by omega) (by omega) (by omega) (by omega) (by omega) hp (by omega)
        have hw : ways (m + 1) at_ size = ways m at_ (half size) ++ [true] := by simp [ways, hz, ha]
        rw [decide_t ha, ct, i1, bs]
        dsimp only
        rw [pnext_eq _ _ _ (by simp; omega), bs]
        dsimp only
        rw [pnode_eq _ _ _ own ((proof.drop (ways m at_ (half size)).length).headD ByteArray.empty) (by omega) (by have := (hp.drop (ways m at_ (half size)).length).head; omega) (by omega), bs, hw]
        refine ⟨nodeV own ((proof.drop (ways m at_ (half size)).length).headD ByteArray.empty), st ++ [strL (nodeL own ((proof.drop (ways m at_ (half size)).length).headD ByteArray.empty))], ?_, by rw [nodeV_size]; omega, by simp [i3]; omega, by simp; omega, fun hle => ?_⟩
        · dsimp only
          rw [List.tail_drop, List.length_append, List.length_singleton]
          congr 4
          rw [Bool.or_assoc]
          congr 1
          rw [Bool.eq_iff_iff, Bool.or_eq_true, decide_eq_true_iff, decide_eq_true_iff, List.isEmpty_iff, List.drop_eq_nil_iff]
          omega
        · rw [List.length_append, List.length_singleton] at hle ⊢
          have hlt : (ways m at_ (half size)).length < proof.length := by omega
          obtain ⟨k1, k2⟩ := i5 (by omega)
          rw [take_snoc hlt, foldW_snoc _ _ _ _ _ (by simp; omega), inputsW_snoc _ _ _ _ _ (by simp; omega), if_pos rfl, if_pos rfl, ← k1, drop_headD hlt, k2]
          exact ⟨rfl, by rw [List.append_assoc]⟩
      · obtain ⟨own, st, i1, i2, i3, i4, i5⟩ := incl_i leaf hleaf m fu (at_ - half size) (size - half size) proof bad steps (by omega) (by omega) (by omega) (by omega) (by omega) hp (by omega)
        have hw : ways (m + 1) at_ size = ways m (at_ - half size) (size - half size) ++ [false] := by simp [ways, hz, ha]
        rw [decide_f ha, cf, wr (by omega) (by omega), wr (by omega) (by omega), i1, bs]
        dsimp only
        rw [pnext_eq _ _ _ (by simp; omega), bs]
        dsimp only
        rw [pnode_eq _ _ _ ((proof.drop (ways m (at_ - half size) (size - half size)).length).headD ByteArray.empty) own (by have := (hp.drop (ways m (at_ - half size) (size - half size)).length).head; omega) (by omega) (by omega), bs, hw]
        refine ⟨nodeV ((proof.drop (ways m (at_ - half size) (size - half size)).length).headD ByteArray.empty) own, st ++ [strL (nodeL ((proof.drop (ways m (at_ - half size) (size - half size)).length).headD ByteArray.empty) own)], ?_, by rw [nodeV_size]; omega, by simp [i3]; omega, by simp; omega, fun hle => ?_⟩
        · dsimp only
          rw [List.tail_drop, List.length_append, List.length_singleton]
          congr 4
          rw [Bool.or_assoc]
          congr 1
          rw [Bool.eq_iff_iff, Bool.or_eq_true, decide_eq_true_iff, decide_eq_true_iff, List.isEmpty_iff, List.drop_eq_nil_iff]
          omega
        · rw [List.length_append, List.length_singleton] at hle ⊢
          have hlt : (ways m (at_ - half size) (size - half size)).length < proof.length := by omega
          obtain ⟨k1, k2⟩ := i5 (by omega)
          rw [take_snoc hlt, foldW_snoc _ _ _ _ _ (by simp; omega), inputsW_snoc _ _ _ _ _ (by simp; omega), if_neg (by decide), if_neg (by decide), ← k1, drop_headD hlt, k2]
          exact ⟨rfl, by rw [List.append_assoc]⟩
theorem up_s (leaf : ByteArray) (hleaf : leaf.size ≤ 1000000) : ∀ (m fu : Nat) (at_ size : Int) (proof : List ByteArray), 1 ≤ size → size ≤ m → m < fu → m ≤ 1000000 → at_ ≤ 1000000 → -1000000 ≤ at_ - size → Small proof →
    ∃ own, s_l06Up fu leaf at_ size proof = some (own, decide (proof.length = (ways m at_ size).length)) ∧ own.size ≤ 1000000 ∧ (proof.length = (ways m at_ size).length → own = foldW leaf (ways m at_ size) proof)
  | 0, fu + 1, at_, size, proof, h0, h1, h2, h3, h4, h5, hp => by omega
  | m + 1, fu + 1, at_, size, proof, h0, h1, h2, h3, h4, h5, hp => by
    unfold s_l06Up s_l06Up.F
    have hpl := hp.1
    by_cases hz : size = 1
    · subst hz
      have hw : ways (m + 1) at_ 1 = [] := by simp [ways]
      rw [beq_self_eq_true, ct, hw]
      refine ⟨leaf, ?_, hleaf, fun _ => by simp [foldW]⟩
      congr 2
      rw [Bool.eq_iff_iff, beq_iff_eq, decide_eq_true_iff, List.length_nil]
      omega
    · obtain ⟨_, e1, e3, e4⟩ := half_eq size (by omega) (by omega)
      rw [show (size == 1) = false by simp [hz], cf]
      have hz' : ¬ size ≤ 1 := by omega
      by_cases hn : proof.length = 0
      · rw [show ((proof.length : Int) == 0) = true by simp [hn], ct]
        have hne : (ways (m + 1) at_ size).length ≠ 0 := by
          simp only [ways, if_neg hz']
          split <;> simp
        exact ⟨ByteArray.empty, by rw [decide_f (by omega)], Nat.zero_le _, fun h => by omega⟩
      · obtain ⟨rest, last, hrl⟩ : ∃ rest last, proof = rest ++ [last] := ⟨proof.dropLast, proof.getLast (by rintro rfl; exact hn rfl), (List.dropLast_concat_getLast _).symm⟩
        have hlen : proof.length = rest.length + 1 := by rw [hrl]; simp
        have hrs : Small rest := ⟨by omega, fun s hs => hp.2 s (by rw [hrl]; simp [hs])⟩
        have hls : last.size ≤ 1000000 := hp.2 last (by rw [hrl]; simp)
        have hsub : sub proof 0 (rest.length : Int) = rest := by rw [sub_take, Int.toNat_natCast, hrl]; simp
        have hrd : rdE (.str : Kd) proof rest.length = last := by
          rw [rdE_at (k := .str) (show rest.length < List.length (α := ByteArray) proof by omega)]
          simp [hrl]
        rw [show ((proof.length : Int) == 0) = false by simp; intro h; exact hn (by rw [h]; rfl), cf, e1, bs, hlen, wr (by omega) (by omega), show (((rest.length + 1 : Nat) : Int) - 1) = (rest.length : Int) by omega, grd_of (gIx_t (by omega) (by omega)), grd_of (gSl_t (by omega) (by omega) (by omega)), hsub, Int.toNat_natCast, hrd]
        by_cases ha : at_ < half size
        · obtain ⟨own, i1, i2, i3⟩ := up_s leaf hleaf m fu at_ (half size) rest (by omega) (by omega) (by omega) (by omega) (by omega) (by omega) hrs
          have hw : ways (m + 1) at_ size = ways m at_ (half size) ++ [true] := by simp [ways, hz', ha]
          rw [decide_t ha, ct, i1, bs]
          dsimp only
          rw [node_s own last (by omega) (by omega), bs, hw]
          refine ⟨nodeV own last, ?_, by rw [nodeV_size]; omega, fun h => ?_⟩
          · congr 2
            rw [Bool.eq_iff_iff, decide_eq_true_iff, decide_eq_true_iff]
            simp
          · have hh : rest.length = (ways m at_ (half size)).length := by simp at h; exact h
            rw [hrl, foldW_snoc _ _ _ _ _ hh.symm, if_pos rfl, ← i3 hh]
        · obtain ⟨own, i1, i2, i3⟩ := up_s leaf hleaf m fu (at_ - half size) (size - half size) rest (by omega) (by omega) (by omega) (by omega) (by omega) (by omega) hrs
          have hw : ways (m + 1) at_ size = ways m (at_ - half size) (size - half size) ++ [false] := by simp [ways, hz', ha]
          rw [decide_f ha, cf, wr (by omega) (by omega), wr (by omega) (by omega), i1, bs]
          dsimp only
          rw [node_s last own (by omega) (by omega), bs, hw]
          refine ⟨nodeV last own, ?_, by rw [nodeV_size]; omega, fun h => ?_⟩
          · congr 2
            rw [Bool.eq_iff_iff, decide_eq_true_iff, decide_eq_true_iff]
            simp
          · have hh : rest.length = (ways m (at_ - half size) (size - half size)).length := by simp at h; exact h
            rw [hrl, foldW_snoc _ _ _ _ _ hh.symm, if_neg (by decide), ← i3 hh]
end Go.Proofs.YtdpjbeeokimnaaaGreatDoorA

/-
  Commands read from bytes: the program and the reference read alike, and read back what was written. No condition.
-/
namespace Go.Proofs.YtdpjbeeokimnaaaGreatDoorA
open Go
set_option linter.unusedVariables false
set_option linter.unusedSimpArgs false

end Go.Proofs.YtdpjbeeokimnaaaGreatDoorA

/-
  Draws out of a code: each draw comes to an end, with a number below what is asked. No condition.
-/
namespace Go.Proofs.YtdpjbeeokimnaaaGreatDoorA
open Go
set_option linter.unusedVariables false
set_option linter.unusedSimpArgs false

end Go.Proofs.YtdpjbeeokimnaaaGreatDoorA

/-
  Entries of a log in bytes: the program's and the reference's; a drawn entry is a right one. No condition.
-/
namespace Go.Proofs.YtdpjbeeokimnaaaGreatDoorA
open Go
set_option linter.unusedVariables false
set_option linter.unusedSimpArgs false

end Go.Proofs.YtdpjbeeokimnaaaGreatDoorA

/-
  The laws' helpers at texts and entries. No condition.
-/
namespace Go.Proofs.YtdpjbeeokimnaaaGreatDoorA
open Go
set_option linter.unusedVariables false
set_option linter.unusedSimpArgs false

/-! ### Rows of texts -/
/-- What the measure says: few of them, none long. -/
structure SzS (a : List ByteArray) : Prop where
  len : a.length ≤ 1048576
  each : ∀ s ∈ a, s.size ≤ 1048576
theorem szStringS_eq (a : List ByteArray) (left : Int) (h : 0 ≤ left) (hl : left ≤ 1048576) (ha : a.length ≤ 9223372036854775) (hs : ∀ s ∈ a, s.size ≤ 140737488351232) : ∃ r, l_szStringS a left = some r ∧ r ≤ left ∧ (¬ r < 0 → SzS a) := by
  unfold l_szStringS l_szStringS.F
  rw [wr (x := left - (a.length : Int)) (by omega) (by omega)]
  by_cases h0 : left - (a.length : Int) < 0
  · rw [decide_t h0, ct]
    exact ⟨_, rfl, by omega, fun h => by omega⟩
  · rw [decide_f h0, cf]
    have key : ∀ (m n i : Nat) (q : Int), i + m = a.length → m < n → 0 ≤ q → q ≤ left → ∃ r, l_szStringS.l1 (fun left1 => some left1) (fun i => some i) n a q i = some r ∧ r ≤ left ∧ (¬ r < 0 → ∀ s ∈ a.drop i, s.size ≤ 1048576) := by
      intro m
      induction m with
      | zero =>
        intro n i q e hn hq hq1
        obtain ⟨n, rfl⟩ : ∃ q, n = q + 1 := ⟨n - 1, by omega⟩
        simp only [l_szStringS.l1]
        rw [decide_f (by omega), cf, List.drop_of_length_le (by omega)]
        exact ⟨_, rfl, hq1, fun _ s hs => by simp at hs⟩
      | succ m ih =>
        intro n i q e hn hq hq1
        obtain ⟨n, rfl⟩ : ∃ q, n = q + 1 := ⟨n - 1, by omega⟩
        have hi : i < a.length := by omega
        have h2 := hs _ (List.getElem_mem hi)
        simp only [l_szStringS.l1]
        rw [decide_t (by omega), ct, grd_of (gIx_t (by omega) (by omega)), Int.toNat_natCast, rdE_at (k := .str) hi, wr (x := q - (a[i].size : Int)) (by omega) (by omega)]
        by_cases h3 : q - (a[i].size : Int) < 0
        · rw [decide_t h3, ct]
          exact ⟨_, rfl, by omega, fun h => by omega⟩
        · rw [decide_f h3, cf, wr (x := (i : Int) + 1) (by omega) (by omega)]
          obtain ⟨r, h4, h5, h6⟩ := ih n (i + 1) _ (by omega) (by omega) (by omega : 0 ≤ q - (a[i].size : Int)) (by omega)
          rw [show ((i + 1 : Nat) : Int) = (i : Int) + 1 by omega] at h4
          refine ⟨r, h4, h5, fun h s hs => ?_⟩
          rw [drop_cons hi] at hs
          rcases List.mem_cons.1 hs with rfl | hs
          · omega
          · exact h6 h s hs
    obtain ⟨r, h4, h5, h6⟩ := key a.length fuel 0 _ (by omega) (fuel_big (by omega)) (by omega : 0 ≤ left - (a.length : Int)) (by omega)
    refine ⟨r, h4, h5, fun h => ⟨by omega, fun s hs => h6 h s (by simpa using hs)⟩⟩
theorem toStringS_eq (a : List ByteArray) (h : a.length ≤ 1048576) : l_toStringS a = some a := by
  unfold l_toStringS l_toStringS.F
  rw [grd_of (gMk_t (by omega) (by omega) (by omega))]
  refine copy_loop (k := .str) (L := fun n i out => l_toStringS.l1 (fun out => some out) n a i out) (fin := fun out => some out) ?_ ?_ a.length fuel 0 _ (by omega) (fuel_big (by omega)) (by simp) (by simp)
  · intro n i out hi hl
    simp only [l_toStringS.l1]
    rw [decide_t (by omega), ct, grd_of (gIx_t (by omega) (by omega)), grd_of (gIx_t (by omega) (by omega)), wr (by omega) (by omega), Int.toNat_natCast, rdE_at (k := .str) hi, show ((i : Int) + 1) = ((i + 1 : Nat) : Int) by omega]
    rfl
  · intro n out
    simp only [l_toStringS.l1]
    rw [decide_f (by omega), cf]
theorem eqStringS_self (a : List ByteArray) (h : a.length ≤ 1048576) : l_eqStringS a a = some true := by
  unfold l_eqStringS l_eqStringS.F
  rw [show ((a.length : Int) != a.length) = false by simp, cf]
  have hs : ∀ (n : Nat) (s : Unit) (i : Nat), i < a.length → True → l_eqStringS.l1 (some true) (fun b1 => some b1) (n + 1) a a (i : Int) = l_eqStringS.l1 (some true) (fun b1 => some b1) n a a ((i + 1 : Nat) : Int) := by
    intro n _ i hi _
    simp only [l_eqStringS.l1]
    rw [decide_t (by omega), ct, grd_of (gIx_t (by omega) (by omega)), grd_of (gIx_t (by omega) (by omega)), sEq_self, Bool.not_true, cf, wr (by omega) (by omega), show ((i : Int) + 1) = ((i + 1 : Nat) : Int) by omega]
  have h0 : ∀ (n : Nat) (s : Unit), True → l_eqStringS.l1 (some true) (fun b1 => some b1) (n + 1) a a (a.length : Int) = some true := by
    intro n _ _
    simp only [l_eqStringS.l1]
    rw [decide_f (by omega), cf]
  obtain ⟨_, h1, _⟩ := pass_loop (S := Unit) (L := fun n _ i => l_eqStringS.l1 (some true) (fun b1 => some b1) n a a i) (len := a.length) (step := fun _ _ => ()) (fin := fun _ => some true) (fun _ _ => True) hs (fun _ _ _ _ => trivial) h0 a.length fuel 0 () (by omega) (fuel_big (by omega)) trivial
  exact h1
/-! ### Rows of entries -/
end Go.Proofs.YtdpjbeeokimnaaaGreatDoorA

/-
  Hashes' tests, trusts, proofs' codes. No condition.
-/
namespace Go.Proofs.YtdpjbeeokimnaaaGreatDoorA
open Go
set_option linter.unusedVariables false
set_option linter.unusedSimpArgs false

theorem any_not_all {α : Type} (q : α → Bool) (l : List α) : (!(l.any fun x => !q x)) = l.all q := by
  induction l with
  | nil => rfl
  | cons x l ih => rw [List.any_cons, List.all_cons, ← ih]; cases q x <;> simp
def is32 (t : ByteArray) : Bool := decide (t.size = 32)
theorem isHash_eq (l : List ByteArray) (h : l.length ≤ 1000000000) : i_isHash l = some (l.all is32) := by
  unfold i_isHash i_isHash.F slices_ContainsFunc_SLstring_string slices_ContainsFunc_SLstring_string.F slices_IndexFunc_SLstring_string slices_IndexFunc_SLstring_string.F
  have hq : ∀ x ∈ l, (fun x : ByteArray => (fun t : ByteArray × Unit => (i_isHash_1 t.1).bind fun a => some (a, ())) (x, ())) x = some (!is32 x, ()) := by
    intro x _
    have : ((x.size : Int) != 32) = !is32 x := by
      rw [Bool.eq_iff_iff, bne_iff_ne, is32, Bool.not_eq_true', decide_eq_false_iff_not]
      omega
    simp only [i_isHash_1, i_isHash_1.F, bs, this]
  have := find_loop (k := .str) (L := slices_IndexFunc_SLstring_string.l1 (fun t => (i_isHash_1 t.1).bind fun a => some (a, ())) (some (-1 : Int)) (fun i => some i)) (fun n s i j => rfl) (l := l) (by omega) hq l.length fuel 0 (by omega) (fuel_big (by omega))
  rw [Int.natCast_zero] at this
  rw [this, List.drop_zero, ← any_not_all, ← findIdx_any]
  cases l.findIdx? fun x => !is32 x with
  | none => rfl
  | some d => simp
theorem l06Hashes_eq (l : List ByteArray) (h : l.length ≤ 1000000000) : s_l06Hashes l = some (decide (l.length ≤ 64) && l.all is32) := by
  unfold s_l06Hashes s_l06Hashes.F
  by_cases h0 : l.length > 64
  · rw [decide_t (by omega), ct, decide_f (by omega), Bool.false_and]
  · rw [decide_f (by omega), cf, decide_t (by omega), Bool.true_and]
    have key : ∀ (m n j : Nat), j + m = l.length → m < n → s_l06Hashes.l1 (some true) (fun b => some b) n l j = some ((l.drop j).all is32) := by
      intro m
      induction m with
      | zero =>
        intro n j e hn
        obtain ⟨n, rfl⟩ : ∃ q, n = q + 1 := ⟨n - 1, by omega⟩
        simp only [s_l06Hashes.l1]
        rw [decide_f (by omega), cf, List.drop_of_length_le (by omega)]
        rfl
      | succ m ih =>
        intro n j e hn
        obtain ⟨n, rfl⟩ : ∃ q, n = q + 1 := ⟨n - 1, by omega⟩
        have hj : j < l.length := by omega
        simp only [s_l06Hashes.l1]
        rw [decide_t (by omega), ct, grd_of (gIx_t (by omega) (by omega)), Int.toNat_natCast, rdE_at (k := .str) hj, drop_cons hj, List.all_cons]
        by_cases h1 : l[j].size = 32
        · rw [show ((l[j].size : Int) != 32) = false by simp [h1], cf, wr (by omega) (by omega), show ((j : Int) + 1) = ((j + 1 : Nat) : Int) by omega, ih n (j + 1) (by omega) (by omega), show is32 l[j] = true from decide_eq_true h1, Bool.true_and]
        · rw [show ((l[j].size : Int) != 32) = true by simp; omega, ct, show is32 l[j] = false from decide_eq_false h1, Bool.false_and]
    exact key l.length fuel 0 (by omega) (fuel_big (by omega))
theorem isText_nil : i_isText [] = some true := by
  unfold i_isText i_isText.F slices_ContainsFunc_SLstring_string slices_ContainsFunc_SLstring_string.F slices_IndexFunc_SLstring_string slices_IndexFunc_SLstring_string.F
  obtain ⟨q, hq⟩ : ∃ q, fuel = q + 1 := ⟨fuel - 1, by rw [fuel_eq]⟩
  rw [hq]
  rfl
theorem proofCode_nil (p : List ByteArray) (h : p.length ≤ 1000000000) : i_proofCode p [] = some (if p.length > 4096 then 2 else if (decide (p.length ≤ 64) && p.all is32) = true then 0 else 1) := by
  unfold i_proofCode i_proofCode.F i_proofCode.j1 i_isList_string i_isList_string.F
  rw [bs]
  by_cases h0 : p.length > 4096
  · rw [decide_f (by omega), Bool.not_false, ct, if_pos h0]
    rfl
  · rw [decide_t (by omega), Bool.not_true, cf, isText_nil, bs]
    dsimp only
    rw [Bool.not_true, cf, isHash_eq [] (by decide), bs, show (List.all [] is32) = true from rfl, Bool.not_true, cf, if_neg h0]
    by_cases h1 : p.length ≤ 64
    · rw [decide_f (by omega), cf, isHash_eq p h, bs, decide_t h1, Bool.true_and]
      cases p.all is32 <;> rfl
    · rw [decide_t (by omega), ct, decide_f h1, Bool.false_and, if_neg (by decide)]
def stmOK (S : Int) (L M : ByteArray) : Bool := (decide (0 ≤ S) && decide (S ≤ 50)) && (is32 L && is32 M)
def trOK (K : ByteArray) (H : Bool) (S : Int) (L M : ByteArray) : Bool := is32 K && cond H (stmOK S L M) ((S == 0) && (sEq L ByteArray.empty && sEq M ByteArray.empty))
theorem statementOK_i (S : Int) (L M : ByteArray) : i_statementOK S L M = some (stmOK S L M) := by
  unfold i_statementOK i_statementOK.F stmOK
  rw [within_eq, bs, isHash_eq [L, M] (by simp), bs]
  cases (decide (0 ≤ S) && decide (S ≤ 50)) with
  | false => rw [cf, Bool.false_and]
  | true => rw [ct, Bool.true_and]; simp
theorem size32 (t : ByteArray) : ((t.size : Int) == 32) = is32 t := by
  rw [Bool.eq_iff_iff, beq_iff_eq, is32, decide_eq_true_iff]
  omega
theorem size32' (t : ByteArray) : ((t.size : Int) != 32) = !is32 t := by rw [bne, size32]
theorem statement_s (S : Int) (L M : ByteArray) : s_l15Statement S L M = some (stmOK S L M) := by
  unfold s_l15Statement s_l15Statement.F stmOK
  rw [l01In_eq, bs, size32, size32]
  cases (decide (0 ≤ S) && decide (S ≤ 50)) with
  | false => rw [cf, Bool.false_and]
  | true =>
    rw [ct, Bool.true_and]
    cases is32 L <;> rfl
theorem trustOK_i (K : ByteArray) (H : Bool) (S : Int) (L M : ByteArray) : i_TrustOK K H S L M = some (trOK K H S L M) := by
  unfold i_TrustOK i_TrustOK.F i_Trust_last i_Trust_last.F trOK
  rw [isHash_eq [K] (by simp), bs]
  simp only [bs, statementOK_i, List.all_cons, List.all_nil, Bool.and_true]
  cases is32 K <;> cases H <;> rfl
theorem trustOK_s (K : ByteArray) (H : Bool) (S : Int) (L M : ByteArray) : s_TrustOK K H S L M = some (trOK K H S L M) := by
  unfold s_TrustOK s_TrustOK.F trOK
  rw [size32', statement_s]
  simp only [bs]
  cases is32 K with
  | false => rfl
  | true =>
    cases H with
    | true => rfl
    | false =>
      cases (S == 0) with
      | false => rfl
      | true => cases sEq L ByteArray.empty <;> rfl
theorem inclusionRoot_i (leaf : ByteArray) (at_ size : Int) (proof : List ByteArray) (hleaf : leaf.size ≤ 1000000) (hp : Small proof) :
    i_inclusionRoot leaf at_ size proof = some (if (1 ≤ size ∧ size ≤ 64) ∧ 0 ≤ at_ ∧ at_ ≤ size - 1 then (if proof.length = (ways 64 at_ size).length then (foldW leaf (ways 64 at_ size) proof, inputsW leaf (ways 64 at_ size) proof, 0) else (ByteArray.empty, [], 10)) else (ByteArray.empty, [], 4)) := by
  unfold i_inclusionRoot i_inclusionRoot.F
  rw [within_eq, bs]
  by_cases h1 : 1 ≤ size ∧ size ≤ 64
  · rw [decide_t h1.1, decide_t h1.2, Bool.and_self, Bool.not_true, cf, within_eq, bs, wr (x := size - 1) (by omega) (by omega)]
    by_cases h2 : 0 ≤ at_ ∧ at_ ≤ size - 1
    · rw [decide_t h2.1, decide_t h2.2, Bool.and_self, Bool.not_true, cf, if_pos ⟨h1, h2⟩]
      obtain ⟨own, st, i1, i2, i3, i4, i5⟩ := incl_i leaf hleaf 64 fuel at_ size proof false [] (by omega) (fuel_big (by omega)) (by omega) (by omega) (by omega) hp (by simp)
      rw [i1, bs]
      simp only [Bool.false_or]
      by_cases h3 : proof.length < (ways 64 at_ size).length
      · rw [decide_t h3, ct, if_neg (by omega)]
      · rw [decide_f h3, cf]
        by_cases h4 : proof.length = (ways 64 at_ size).length
        · obtain ⟨k1, k2⟩ := i5 (by omega)
          rw [← h4, List.take_length] at k1 k2
          rw [decide_f (by rw [List.length_drop]; omega), cf, if_pos h4, k1, k2, List.nil_append]
        · rw [decide_t (by rw [List.length_drop]; omega), ct, if_neg h4]
    · rw [show (decide (0 ≤ at_) && decide (at_ ≤ size - 1)) = false by rw [← Bool.not_eq_true, Bool.and_eq_true, decide_eq_true_iff, decide_eq_true_iff]; exact h2, Bool.not_false, ct, if_neg (fun h => h2 h.2)]
  · rw [show (decide (1 ≤ size) && decide (size ≤ 64)) = false by rw [← Bool.not_eq_true, Bool.and_eq_true, decide_eq_true_iff, decide_eq_true_iff]; exact h1, Bool.not_false, ct, if_neg (fun h => h1 h.1)]
theorem szTrust_eq (K : ByteArray) (H : Bool) (S : Int) (L M : ByteArray) (hK : K.size ≤ 140737488351232) (hL : L.size ≤ 140737488351232) (hM : M.size ≤ 140737488351232) : ∃ r, l_szTrust K H S L M 1048576 = some r ∧ r ≤ 1048576 := by
  unfold l_szTrust l_szTrust.F
  rw [wr (x := (1048576 : Int) - K.size) (by omega) (by omega), wr (x := (1048576 : Int) - K.size - L.size) (by omega) (by omega), wr (x := (1048576 : Int) - K.size - L.size - M.size) (by omega) (by omega)]
  by_cases h1 : (1048576 : Int) - K.size < 0
  · rw [decide_t h1, ct]
    exact ⟨_, rfl, by decide⟩
  · rw [decide_f h1, cf]
    by_cases h2 : (1048576 : Int) - K.size - L.size < 0
    · rw [decide_t h2, ct]
      exact ⟨_, rfl, by decide⟩
    · rw [decide_f h2, cf]
      by_cases h3 : (1048576 : Int) - K.size - L.size - M.size < 0
      · rw [decide_t h3, ct]
        exact ⟨_, rfl, by decide⟩
      · rw [decide_f h3, cf]
        exact ⟨_, rfl, by omega⟩
end Go.Proofs.YtdpjbeeokimnaaaGreatDoorA

/-
  Proofs of growth, as the program and as the reference follow them. No condition.
-/
namespace Go.Proofs.YtdpjbeeokimnaaaGreatDoorA
open Go
set_option linter.unusedVariables false
set_option linter.unusedSimpArgs false

/-- How many hashes lead from the first ones to all. -/
noncomputable def grN : Nat → Int → Int → Bool → Nat
  | 0, _, _, _ => 0
  | f + 1, old, size, whole => if old = size then (cond whole 0 1) else if old ≤ half size then grN f old (half size) whole + 1 else grN f (old - half size) (size - half size) false + 1
/-- What they lead to. -/
noncomputable def grV (root : ByteArray) : Nat → Int → Int → Bool → List ByteArray → ByteArray × ByteArray
  | 0, _, _, _, _ => (root, root)
  | f + 1, old, size, whole, q => if old = size then (cond whole (root, root) (q.getD 0 ByteArray.empty, q.getD 0 ByteArray.empty))
    else if old ≤ half size then ((grV root f old (half size) whole q).1, nodeV (grV root f old (half size) whole q).2 (q.getD (grN f old (half size) whole) ByteArray.empty))
    else (nodeV (q.getD (grN f (old - half size) (size - half size) false) ByteArray.empty) (grV root f (old - half size) (size - half size) false q).1, nodeV (q.getD (grN f (old - half size) (size - half size) false) ByteArray.empty) (grV root f (old - half size) (size - half size) false q).2)
theorem grN_succ (f : Nat) (old size : Int) (whole : Bool) : grN (f + 1) old size whole = if old = size then (cond whole 0 1) else if old ≤ half size then grN f old (half size) whole + 1 else grN f (old - half size) (size - half size) false + 1 := rfl
theorem grV_succ (root : ByteArray) (f : Nat) (old size : Int) (whole : Bool) (q : List ByteArray) : grV root (f + 1) old size whole q = if old = size then (cond whole (root, root) (q.getD 0 ByteArray.empty, q.getD 0 ByteArray.empty))
    else if old ≤ half size then ((grV root f old (half size) whole q).1, nodeV (grV root f old (half size) whole q).2 (q.getD (grN f old (half size) whole) ByteArray.empty))
    else (nodeV (q.getD (grN f (old - half size) (size - half size) false) ByteArray.empty) (grV root f (old - half size) (size - half size) false q).1, nodeV (q.getD (grN f (old - half size) (size - half size) false) ByteArray.empty) (grV root f (old - half size) (size - half size) false q).2) := rfl
theorem Small.getD {p : List ByteArray} (h : Small p) (n : Nat) : (p.getD n ByteArray.empty).size ≤ 1000000 := by
  rw [List.getD_eq_getElem?_getD]
  cases hg : p[n]? with
  | none => simp
  | some s => exact h.2 s (List.mem_of_getElem? hg)
theorem grV_small (root : ByteArray) (hr : root.size ≤ 1000000) (q : List ByteArray) (hq : Small q) : ∀ (f : Nat) (old size : Int) (whole : Bool), (grV root f old size whole q).1.size ≤ 1000000 ∧ (grV root f old size whole q).2.size ≤ 1000000
  | 0, _, _, _ => ⟨hr, hr⟩
  | f + 1, old, size, whole => by
    rw [grV_succ]
    split
    · cases whole with
      | true => exact ⟨hr, hr⟩
      | false => exact ⟨hq.getD 0, hq.getD 0⟩
    · split
      · exact ⟨(grV_small root hr q hq f _ _ _).1, by rw [nodeV_size]; decide⟩
      · exact ⟨by rw [nodeV_size]; decide, by rw [nodeV_size]; decide⟩
theorem head_drop (p : List ByteArray) (n : Nat) : (p.drop n).headD ByteArray.empty = p.getD n ByteArray.empty := by
  rw [List.getD_eq_getElem?_getD, List.headD_eq_head?_getD, List.head?_drop]
theorem grow_i (root : ByteArray) (hr : root.size ≤ 1000000) (proof : List ByteArray) (hp : Small proof) (steps : List ByteArray) : ∀ (m fu : Nat) (bad : Bool) (old size : Int) (whole : Bool), 1 ≤ old → old ≤ size → size ≤ m → m < fu → m ≤ 1000000 →
    i_prover_growth fu proof bad steps old size whole root = some ((grV root m old size whole proof).1, (grV root m old size whole proof).2, proof.drop (grN m old size whole), bad || decide (proof.length < grN m old size whole), steps)
  | 0, fu + 1, bad, old, size, whole, h0, h1, h2, h3, h4 => by omega
  | m + 1, fu + 1, bad, old, size, whole, h0, h1, h2, h3, h4 => by
    have hpl := hp.1
    unfold i_prover_growth i_prover_growth.F i_prover_growth.j1
    rw [grV_succ, grN_succ]
    by_cases hz : old = size
    · rw [if_pos hz, if_pos hz, show (old == size) = true by simp [hz], ct]
      cases whole with
      | true => simp
      | false =>
        simp only [cf, ct, pnext_eq proof bad steps (by omega), bs]
        rw [show (old == size) = true by simp [hz], ct, show proof.headD ByteArray.empty = proof.getD 0 ByteArray.empty by cases proof <;> rfl, show proof.tail = proof.drop 1 by cases proof <;> rfl, show proof.isEmpty = decide (proof.length < 1) by cases proof <;> simp]
    · rw [if_neg hz, if_neg hz]
      simp only [show (old == size) = false by simp [hz], cf]
      obtain ⟨e1, _, e3, e4⟩ := half_eq size (by omega) (by omega)
      rw [e1, bs]
      by_cases ha : old ≤ half size
      · have hs := grV_small root hr proof hp m old (half size) whole
        have hg := hp.getD (grN m old (half size) whole)
        rw [decide_t ha, ct, if_pos ha, if_pos ha, grow_i root hr proof hp steps m fu bad old (half size) whole h0 ha (by omega) (by omega) (by omega), bs]
        dsimp only
        rw [pnext_eq _ _ _ (by simp; omega), bs]
        dsimp only
        rw [head_drop, nodeHash_i _ _ (by omega) (by omega), bs, List.tail_drop]
        congr 4
        rw [Bool.or_assoc]
        congr 2
        rw [Bool.eq_iff_iff, Bool.or_eq_true, decide_eq_true_iff, decide_eq_true_iff, List.isEmpty_iff, List.drop_eq_nil_iff]
        omega
      · have hs := grV_small root hr proof hp m (old - half size) (size - half size) false
        have hg := hp.getD (grN m (old - half size) (size - half size) false)
        rw [decide_f ha, cf, if_neg ha, if_neg ha, wr (by omega) (by omega), wr (by omega) (by omega), grow_i root hr proof hp steps m fu bad (old - half size) (size - half size) false (by omega) (by omega) (by omega) (by omega) (by omega), bs]
        dsimp only
        rw [pnext_eq _ _ _ (by simp; omega), bs]
        dsimp only
        rw [head_drop, nodeHash_i _ _ (by omega) (by omega), bs, nodeHash_i _ _ (by omega) (by omega), bs, List.tail_drop]
        congr 4
        rw [Bool.or_assoc]
        congr 2
        rw [Bool.eq_iff_iff, Bool.or_eq_true, decide_eq_true_iff, decide_eq_true_iff, List.isEmpty_iff, List.drop_eq_nil_iff]
        omega
theorem getD_app {q r : List ByteArray} {n : Nat} (h : n < q.length) : (q ++ r).getD n ByteArray.empty = q.getD n ByteArray.empty := by
  rw [List.getD_eq_getElem?_getD, List.getD_eq_getElem?_getD, List.getElem?_append_left h]
theorem grV_app (root : ByteArray) (q r : List ByteArray) : ∀ (f : Nat) (old size : Int) (whole : Bool), grN f old size whole ≤ q.length → grV root f old size whole (q ++ r) = grV root f old size whole q
  | 0, _, _, _, _ => rfl
  | f + 1, old, size, whole, h => by
    rw [grN_succ] at h
    rw [grV_succ, grV_succ]
    by_cases hz : old = size
    · rw [if_pos hz] at h
      rw [if_pos hz, if_pos hz]
      cases whole with
      | true => rfl
      | false => rw [cond_false] at h; rw [getD_app (by omega)]
    · rw [if_neg hz] at h
      rw [if_neg hz, if_neg hz]
      by_cases ha : old ≤ half size
      · rw [if_pos ha] at h
        rw [if_pos ha, if_pos ha, grV_app root q r f _ _ _ (by omega), getD_app (by omega)]
      · rw [if_neg ha] at h
        rw [if_neg ha, if_neg ha, grV_app root q r f _ _ _ (by omega), getD_app (by omega)]
theorem grow_s (root : ByteArray) (hr : root.size ≤ 1000000) : ∀ (m fu : Nat) (old size : Int) (whole : Bool) (proof : List ByteArray), 1 ≤ old → old ≤ size → size ≤ m → m < fu → m ≤ 1000000 → Small proof →
    ∃ a b, s_l06Both fu old size root proof whole = some (a, b, decide (proof.length = grN m old size whole)) ∧ a.size ≤ 1000000 ∧ b.size ≤ 1000000 ∧ (proof.length = grN m old size whole → (a, b) = grV root m old size whole proof)
  | 0, fu + 1, old, size, whole, proof, h0, h1, h2, h3, h4, hp => by omega
  | m + 1, fu + 1, old, size, whole, proof, h0, h1, h2, h3, h4, hp => by
    have hpl := hp.1
    unfold s_l06Both s_l06Both.F
    rw [grV_succ, grN_succ]
    by_cases hz : old = size
    · simp only [if_pos hz]
      rw [show (old == size) = true by simp [hz], ct]
      cases whole with
      | true =>
        refine ⟨root, root, ?_, hr, hr, fun _ => rfl⟩
        rw [ct]
        congr 3
        rw [Bool.eq_iff_iff, beq_iff_eq, decide_eq_true_iff, cond_true]
        omega
      | false =>
        rw [cf]
        by_cases h5 : proof.length = 1
        · rw [show ((proof.length : Int) != 1) = false by simp [h5], cf, grd_of (gIx_t (by decide) (by omega)), grd_of (gIx_t (by decide) (by omega)), show (0 : Int).toNat = 0 from rfl]
          have e : rdE (.str : Kd) proof 0 = proof.getD 0 ByteArray.empty := rfl
          refine ⟨_, _, by rw [decide_t (by rw [cond_false]; exact h5)], ?_, ?_, fun _ => by rw [e]; rfl⟩
          · rw [e]; exact hp.getD 0
          · rw [e]; exact hp.getD 0
        · rw [show ((proof.length : Int) != 1) = true by simp; omega, ct]
          exact ⟨_, _, by rw [decide_f (by rw [cond_false]; exact h5)], Nat.zero_le _, Nat.zero_le _, fun h => absurd h (by rw [cond_false]; exact h5)⟩
    · simp only [if_neg hz]
      rw [show (old == size) = false by simp [hz], cf]
      obtain ⟨_, e1, e3, e4⟩ := half_eq size (by omega) (by omega)
      by_cases hn : proof.length = 0
      · rw [show ((proof.length : Int) == 0) = true by simp [hn], ct]
        refine ⟨_, _, by rw [decide_f (by split <;> omega)], Nat.zero_le _, Nat.zero_le _, fun h => ?_⟩
        split at h <;> omega
      · obtain ⟨rest, last, hrl⟩ : ∃ rest last, proof = rest ++ [last] := ⟨proof.dropLast, proof.getLast (by rintro rfl; exact hn rfl), (List.dropLast_concat_getLast _).symm⟩
        have hlen : proof.length = rest.length + 1 := by rw [hrl]; simp
        have hrs : Small rest := ⟨by omega, fun s hs => hp.2 s (by rw [hrl]; simp [hs])⟩
        have hls : last.size ≤ 1000000 := hp.2 last (by rw [hrl]; simp)
        have hsub : sub proof 0 (rest.length : Int) = rest := by rw [sub_take, Int.toNat_natCast, hrl]; simp
        have hrd : rdE (.str : Kd) proof rest.length = last := by
          rw [rdE_at (k := .str) (show rest.length < List.length (α := ByteArray) proof by omega)]
          simp [hrl]
        have hgl : proof.getD rest.length ByteArray.empty = last := by rw [hrl]; simp
        rw [show ((proof.length : Int) == 0) = false by simp; intro h; exact hn (by rw [h]; rfl), cf, e1, bs, hlen, wr (by omega) (by omega), show (((rest.length + 1 : Nat) : Int) - 1) = (rest.length : Int) by omega, grd_of (gIx_t (by omega) (by omega)), grd_of (gSl_t (by omega) (by omega) (by omega)), hsub, Int.toNat_natCast, hrd]
        by_cases ha : old ≤ half size
        · simp only [if_pos ha]
          obtain ⟨a, b, i1, i2, i3, i4⟩ := grow_s root hr m fu old (half size) whole rest h0 ha (by omega) (by omega) (by omega) hrs
          rw [decide_t ha, ct, i1, bs]
          dsimp only
          rw [node_s b last (by omega) (by omega), bs]
          refine ⟨a, nodeV b last, ?_, i2, by rw [nodeV_size]; decide, fun h => ?_⟩
          · congr 3
            rw [decide_eq_decide]
            omega
          · have hg : rest.length = grN m old (half size) whole := by omega
            rw [hrl, grV_app root rest [last] m _ _ _ (by omega), ← i4 hg, ← hrl, ← hg, hgl]
        · simp only [if_neg ha]
          obtain ⟨a, b, i1, i2, i3, i4⟩ := grow_s root hr m fu (old - half size) (size - half size) false rest (by omega) (by omega) (by omega) (by omega) (by omega) hrs
          rw [decide_f ha, cf, wr (by omega) (by omega), wr (by omega) (by omega), i1, bs]
          dsimp only
          rw [node_s last a (by omega) (by omega), bs, node_s last b (by omega) (by omega), bs]
          refine ⟨nodeV last a, nodeV last b, ?_, by rw [nodeV_size]; decide, by rw [nodeV_size]; decide, fun h => ?_⟩
          · congr 3
            rw [decide_eq_decide]
            omega
          · have hg : rest.length = grN m (old - half size) (size - half size) false := by omega
            rw [hrl, grV_app root rest [last] m _ _ _ (by omega), ← i4 hg, ← hrl, ← hg, hgl]
theorem growthRoots_i (root : ByteArray) (hr : root.size ≤ 1000000) (proof : List ByteArray) (hp : Small proof) (old size : Int) (h1 : 1 ≤ old) (h2 : old ≤ size) (h3 : size ≤ 64) :
    i_growthRoots old size root proof = some (if proof.length = grN 64 old size true then ((grV root 64 old size true proof).1, (grV root 64 old size true proof).2, 0) else (ByteArray.empty, ByteArray.empty, 10)) := by
  unfold i_growthRoots i_growthRoots.F
  rw [within_eq, bs, decide_t (show (1 : Int) ≤ size by omega), decide_t h3, Bool.and_self, Bool.not_true, cf, within_eq, bs, decide_t h1, decide_t h2, Bool.and_self, Bool.not_true, cf, grow_i root hr proof hp [] 64 fuel false old size true h1 h2 (by omega) (fuel_big (by decide)) (by decide), bs]
  simp only [Bool.false_or]
  by_cases h4 : proof.length < grN 64 old size true
  · rw [decide_t h4, ct, if_neg (by omega)]
  · rw [decide_f h4, cf]
    by_cases h5 : proof.length = grN 64 old size true
    · rw [decide_f (by rw [List.length_drop]; omega), cf, if_pos h5]
    · rw [decide_t (by rw [List.length_drop]; omega), ct, if_neg h5]
end Go.Proofs.YtdpjbeeokimnaaaGreatDoorA

/-
  What is hashed on the way up, as the reference tells it. No condition.
-/
namespace Go.Proofs.YtdpjbeeokimnaaaGreatDoorA
open Go
set_option linter.unusedVariables false
set_option linter.unusedSimpArgs false

/-! ### Collision -/
def isTx (t : ByteArray) : Bool := decide (t.size ≤ 65536)
theorem isText_eq (l : List ByteArray) (h : l.length ≤ 1000000000) : i_isText l = some (l.all isTx) := by
  unfold i_isText i_isText.F slices_ContainsFunc_SLstring_string slices_ContainsFunc_SLstring_string.F slices_IndexFunc_SLstring_string slices_IndexFunc_SLstring_string.F
  have hq : ∀ x ∈ l, (fun x : ByteArray => (fun t : ByteArray × Unit => (i_isText_1 t.1).bind fun a => some (a, ())) (x, ())) x = some (!isTx x, ()) := by
    intro x _
    have : decide ((x.size : Int) > 65536) = !isTx x := by
      rw [Bool.eq_iff_iff, decide_eq_true_iff, isTx, Bool.not_eq_true', decide_eq_false_iff_not]
      omega
    simp only [i_isText_1, i_isText_1.F, bs, this]
  have := find_loop (k := .str) (L := slices_IndexFunc_SLstring_string.l1 (fun t => (i_isText_1 t.1).bind fun a => some (a, ())) (some (-1 : Int)) (fun i => some i)) (fun n s i j => rfl) (l := l) (by omega) hq l.length fuel 0 (by omega) (fuel_big (by omega))
  rw [Int.natCast_zero] at this
  rw [this, List.drop_zero, ← any_not_all, ← findIdx_any]
  cases l.findIdx? fun x => !isTx x with
  | none => rfl
  | some d => simp
def prOK (p : List ByteArray) : Bool := decide (p.length ≤ 64) && p.all is32
theorem small_of {p : List ByteArray} (h : prOK p = true) : Small p ∧ p.length ≤ 64 := by
  unfold prOK at h
  rw [Bool.and_eq_true, decide_eq_true_iff, List.all_eq_true] at h
  exact ⟨⟨by omega, fun s hs => by have := of_decide_eq_true (h.2 s hs); omega⟩, h.1⟩
end Go.Proofs.YtdpjbeeokimnaaaGreatDoorA

/-
  Statements' texts, signatures: as the program and as the reference have them. No condition.
-/
namespace Go.Proofs.YtdpjbeeokimnaaaGreatDoorA
open Go
set_option linter.unusedVariables false
set_option linter.unusedSimpArgs false

/-! ### Half bytes -/
theorem hi8 {x : Int} (h0 : 0 ≤ x) (h1 : x < 256) : iShr .u8 x 4 = x / 16 := by
  unfold iShr
  rw [show min (4 : Int).toNat (IntKind.bits .u8) = 4 from rfl, Int.fdiv_eq_ediv_of_nonneg _ (by decide)]
  rfl
theorem lo8 {x : Int} (h0 : 0 ≤ x) (h1 : x < 256) : iAnd .u8 x 15 = x % 16 := by
  obtain ⟨n, rfl⟩ : ∃ n : Nat, x = n := ⟨x.toNat, by omega⟩
  unfold iAnd bits
  rw [BitVec.toNat_and, BitVec.ofInt_natCast, BitVec.toNat_ofNat, Nat.mod_eq_of_lt (show n < 2 ^ IntKind.bits .u8 from by simp [IntKind.bits]; omega), show (BitVec.ofInt (IntKind.bits .u8) 15).toNat = 2 ^ 4 - 1 from rfl, Nat.and_two_pow_sub_one_eq_mod, wr8m]
  omega
def hxD : ByteArray := ⟨#[48, 49, 50, 51, 52, 53, 54, 55, 56, 57, 97, 98, 99, 100, 101, 102]⟩
def hexL : List Int → List Int
  | [] => []
  | x :: l => byteAt hxD (x / 16) :: byteAt hxD (x % 16) :: hexL l
theorem hexL_len : ∀ l : List Int, (hexL l).length = 2 * l.length
  | [] => rfl
  | x :: l => by simp only [hexL, List.length_cons, hexL_len l]; omega
theorem hex_i {R : Type} (kke : List Int → Option R) (l : List Int) (hb : IsBytes l) (hl : l.length ≤ 1000000) : ∀ (m fu j : Nat) (out : List Int), j + m = l.length → m < fu → out.length + 2 * m ≤ 10000000 →
    i_hexOf.l1 kke fu (strL l) (l.length : Int) (j : Int) out = kke (out ++ hexL (l.drop j))
  | 0, fu + 1, j, out, e, _, _ => by
    simp only [i_hexOf.l1]
    rw [decide_f (by omega), cf, List.drop_of_length_le (by omega), hexL, List.append_nil]
  | m + 1, fu + 1, j, out, e, hf, ho => by
    have hj : j < l.length := by omega
    have hx := hb.get hj
    simp only [i_hexOf.l1]
    rw [decide_t (by omega), ct, grd_of (gIx_t (by omega) (by rw [strL_size]; omega)), grd_of (gSh_t (by decide)), byteAt_strL hb (by omega) (by omega), Int.toNat_natCast, List.getD_eq_getElem?_getD, List.getElem?_eq_getElem hj, Option.getD_some, hi8 hx.1 hx.2, lo8 hx.1 hx.2,
      grd_of (gIx_t (by omega) (by show l[j] / 16 < 16; omega)), grd_of (gIx_t (by omega) (by rw [strL_size]; omega)), grd_of (gIx_t (by omega) (by show l[j] % 16 < 16; omega)), grd_of (gRm_t (by simp; omega)), wr (by omega) (by omega), show ((j : Int) + 1) = ((j + 1 : Nat) : Int) by omega,
      hex_i kke l hb hl m fu (j + 1) _ (by omega) (by omega) (by simp; omega), drop_cons hj, List.append_assoc]
    rfl
theorem hex_s {R : Type} (kke : List Int → Option R) (l : List Int) (hb : IsBytes l) (hl : l.length ≤ 1000000) : ∀ (m fu j : Nat) (out : List Int), j + m = l.length → m < fu → out.length + 2 * m ≤ 10000000 →
    s_l01Hex.l1 kke fu (strL l) (j : Int) out = kke (out ++ hexL (l.drop j))
  | 0, fu + 1, j, out, e, _, _ => by
    simp only [s_l01Hex.l1]
    rw [strL_size, decide_f (by omega), cf, List.drop_of_length_le (by omega), hexL, List.append_nil]
  | m + 1, fu + 1, j, out, e, hf, ho => by
    have hj : j < l.length := by omega
    have hx := hb.get hj
    simp only [s_l01Hex.l1]
    rw [strL_size, decide_t (by omega), ct, grd_of (gIx_t (by omega) (by omega)), grd_of (gNz_t (by decide)), byteAt_strL hb (by omega) (by omega), Int.toNat_natCast, List.getD_eq_getElem?_getD, List.getElem?_eq_getElem hj, Option.getD_some, tdiv_pos hx.1, tmod_pos hx.1, wr8 (x := l[j] / 16) (by omega) (by omega),
      grd_of (gIx_t (by omega) (by show l[j] / 16 < 16; omega)), grd_of (gIx_t (by omega) (by omega)), grd_of (gNz_t (by decide)), grd_of (gIx_t (by omega) (by show l[j] % 16 < 16; omega)), grd_of (gRm_t (by simp; omega)), wr (by omega) (by omega), show ((j : Int) + 1) = ((j + 1 : Nat) : Int) by omega,
      hex_s kke l hb hl m fu (j + 1) _ (by omega) (by omega) (by simp; omega), drop_cons hj, List.append_assoc]
    rfl
def hexV (s : ByteArray) : ByteArray := strL (hexL (bytesL s))
theorem hexV_i (s : ByteArray) (h : s.size ≤ 1000000) : i_hexOf s = some (hexV s) := by
  unfold i_hexOf i_hexOf.F
  have := hex_i (fun out => some (strL out)) (bytesL s) (IsBytes.bytesL s) (by rw [bytesL_length]; exact h) (bytesL s).length fuel 0 [] (by omega) (fuel_big (by rw [bytesL_length]; omega)) (by rw [bytesL_length]; simp; omega)
  rw [Int.natCast_zero, List.drop_zero, List.nil_append, strL_bytesL, bytesL_length] at this
  exact this
theorem hexV_s (s : ByteArray) (h : s.size ≤ 1000000) : s_l01Hex s = some (hexV s) := by
  unfold s_l01Hex s_l01Hex.F
  have := hex_s (fun out => some (strL out)) (bytesL s) (IsBytes.bytesL s) (by rw [bytesL_length]; exact h) (bytesL s).length fuel 0 [] (by omega) (fuel_big (by rw [bytesL_length]; omega)) (by rw [bytesL_length]; simp; omega)
  rw [Int.natCast_zero, List.drop_zero, List.nil_append, strL_bytesL] at this
  exact this
theorem hexV_size (s : ByteArray) : (hexV s).size = 2 * s.size := by rw [hexV, strL_size, hexL_len, bytesL_length]

/-! ### A number's text -/
def numL (n : Int) : List Int := if n < 10 then [48 + n] else [48 + n / 10, 48 + n % 10]
theorem num_s (n : Int) (h0 : 0 ≤ n) (h1 : n < 100) : s_l00Digits fuel n = some (strL (numL n)) := by
  obtain ⟨q, hq⟩ : ∃ q, fuel = q + 1 + 1 := ⟨fuel - 2, by rw [fuel_eq]⟩
  have one : ∀ (f : Nat) (d : Int), 0 ≤ d → d < 10 → s_l00Digits (f + 1) d = some (strL [48 + d]) := fun f d k0 k1 => by
    unfold s_l00Digits s_l00Digits.F
    rw [show (d == -9223372036854775808) = false by rw [beq_eq_false_iff_ne]; omega, cf, decide_f (by omega), cf, decide_t k1, ct, wr (by omega) (by omega), wr8 (by omega) (by omega)]
  rw [hq]
  unfold numL
  by_cases h : n < 10
  · rw [if_pos h, one (q + 1) n h0 h]
  · rw [if_neg h, s_l00Digits]
    unfold s_l00Digits.F
    rw [show (n == -9223372036854775808) = false by rw [beq_eq_false_iff_ne]; omega, cf, decide_f (by omega), cf, decide_f h, cf, grd_of (gNz_t (by decide)), tdiv_pos h0, tmod_pos h0, wr (x := n / 10) (by omega) (by omega), one q (n / 10) (by omega) (by omega), bs, grd_of (gNz_t (by decide)), wr (by omega) (by omega), wr8 (by omega) (by omega), grd_of (gCat_t (by rw [strL_size, strL_size]; simp)), strL_append]
    rfl
theorem num_i (n : Int) (h0 : 0 ≤ n) (h1 : n < 100) : strconv_Itoa n = some (strL (numL n)) := by
  rw [strconv_Itoa_eq]
  unfold strconv_Itoa.F
  rw [decide_t h0, decide_t h1, Bool.and_self, grd_t, itoaS_eq]
  congr 1
  apply ba_ext
  rw [strL_list]
  show Lib.decDigits n.toNat = _
  obtain ⟨q, rfl⟩ : ∃ q : Nat, n = q := ⟨n.toNat, by omega⟩
  rw [Int.toNat_natCast]
  unfold numL
  by_cases h : (q : Int) < 10
  · rw [if_pos h, Lib.decDigits, dif_pos (by omega)]
    simp only [List.map_cons, List.map_nil]
    rw [show ((48 : Int) + (q : Int)).toNat = 48 + q by omega]
  · rw [if_neg h, Lib.decDigits, dif_neg (by omega), Lib.decDigits, dif_pos (by omega)]
    simp only [List.map_cons, List.map_nil, List.cons_append, List.nil_append]
    rw [show ((48 : Int) + (q : Int) / 10).toNat = 48 + q / 10 by omega, show ((48 : Int) + (q : Int) % 10).toNat = 48 + q % 10 by omega]
theorem numL_len (n : Int) : (numL n).length ≤ 2 := by
  unfold numL
  split <;> simp
/-- A statement's text. -/
def txV (S : Int) (L M : ByteArray) : ByteArray := ((((((⟨#[115, 105, 122, 101, 32]⟩ : ByteArray) ++ strL (numL S)) ++ (⟨#[32, 108, 111, 103, 32]⟩ : ByteArray)) ++ hexV L) ++ (⟨#[32, 109, 97, 112, 32]⟩ : ByteArray)) ++ hexV M)
theorem stm_parts {S : Int} {L M : ByteArray} (h : stmOK S L M = true) : (0 ≤ S ∧ S ≤ 50) ∧ L.size = 32 ∧ M.size = 32 := by
  unfold stmOK at h
  rw [Bool.and_eq_true, Bool.and_eq_true, Bool.and_eq_true, decide_eq_true_iff, decide_eq_true_iff] at h
  exact ⟨h.1, of_decide_eq_true h.2.1, of_decide_eq_true h.2.2⟩
theorem sz5a : ByteArray.size (⟨#[115, 105, 122, 101, 32]⟩ : ByteArray) = 5 := rfl
theorem sz5b : ByteArray.size (⟨#[32, 108, 111, 103, 32]⟩ : ByteArray) = 5 := rfl
theorem sz5c : ByteArray.size (⟨#[32, 109, 97, 112, 32]⟩ : ByteArray) = 5 := rfl
theorem txV_size {S : Int} {L M : ByteArray} (h : stmOK S L M = true) : (txV S L M).size ≤ 200 := by
  obtain ⟨_, hL, hM⟩ := stm_parts h
  have := numL_len S
  unfold txV
  simp only [ByteArray.size_append, strL_size, hexV_size, sz5a, sz5b, sz5c]
  omega
theorem text_i {S : Int} {L M : ByteArray} (h : stmOK S L M = true) : i_Statement_text S L M = some (txV S L M) := by
  obtain ⟨hS, hL, hM⟩ := stm_parts h
  have := numL_len S
  unfold i_Statement_text i_Statement_text.F
  rw [num_i S hS.1 (by omega), bs, hexV_i L (by omega), hexV_i M (by omega)]
  simp only [bs]
  have g : ∀ (x y : ByteArray) (z : Option ByteArray), x.size + y.size ≤ 1000 → grd (gCat x y) z = z := fun x y z hh => grd_of (gCat_t (by omega)) z
  rw [g, g, g, g, g]
  · rfl
  all_goals (simp only [ByteArray.size_append, strL_size, hexV_size, sz5a, sz5b, sz5c]; omega)
theorem text_s {S : Int} {L M : ByteArray} (h : stmOK S L M = true) : s_l15Text S L M = some (txV S L M) := by
  obtain ⟨hS, hL, hM⟩ := stm_parts h
  have := numL_len S
  unfold s_l15Text s_l15Text.F
  rw [num_s S hS.1 (by omega), bs, hexV_s L (by omega), hexV_s M (by omega)]
  simp only [bs]
  have g : ∀ (x y : ByteArray) (z : Option ByteArray), x.size + y.size ≤ 1000 → grd (gCat x y) z = z := fun x y z hh => grd_of (gCat_t (by omega)) z
  rw [g, g, g, g, g]
  · rfl
  all_goals (simp only [ByteArray.size_append, strL_size, hexV_size, sz5a, sz5b, sz5c]; omega)

/-! ### Digits of a message -/
def halves : List Int → List Int
  | [] => []
  | x :: l => x / 16 :: x % 16 :: halves l
def lack : List Int → Int
  | [] => 0
  | x :: l => (15 - x) + lack l
def dg16 (h : List Int) : List Int := halves (h.take 8)
def dgV (h : List Int) : List Int := dg16 h ++ [lack (dg16 h) / 16, lack (dg16 h) % 16]
theorem halves_len : ∀ l : List Int, (halves l).length = 2 * l.length
  | [] => rfl
  | x :: l => by simp only [halves, List.length_cons, halves_len l]; omega
theorem halves_range : ∀ (l : List Int), IsBytes l → ∀ d ∈ halves l, 0 ≤ d ∧ d ≤ 15
  | [], _, d, h => by simp [halves] at h
  | x :: l, hb, d, h => by
    have hx := hb x (by simp)
    rcases List.mem_cons.1 h with rfl | h
    · omega
    · rcases List.mem_cons.1 h with rfl | h
      · omega
      · exact halves_range l (fun y hy => hb y (by simp [hy])) d h
theorem lack_range : ∀ (l : List Int), (∀ d ∈ l, 0 ≤ d ∧ d ≤ 15) → 0 ≤ lack l ∧ lack l ≤ 15 * l.length
  | [], _ => by simp [lack]
  | x :: l, h => by
    have hx := h x (by simp)
    have := lack_range l fun d hd => h d (by simp [hd])
    simp only [lack, List.length_cons]
    omega
theorem lack_app (l m : List Int) : lack (l ++ m) = lack l + lack m := by
  induction l with
  | nil => simp [lack]
  | cons x l ih => simp only [List.cons_append, lack, ih]; omega
theorem halves_app (l m : List Int) : halves (l ++ m) = halves l ++ halves m := by
  induction l with
  | nil => rfl
  | cons x l ih => simp only [List.cons_append, halves, ih]
theorem dgl_i {R : Type} (kke : Int → List Int → Option R) (l : List Int) (hb : IsBytes l) (hl : l.length = 32) : ∀ (m fu j : Nat), j + m = 8 → m < fu →
    i_digits.l1 kke fu (lack (halves (l.take j))) (strL l) (j : Int) (halves (l.take j)) = kke (lack (dg16 l)) (dg16 l)
  | 0, fu + 1, j, e, _ => by
    obtain rfl : j = 8 := by omega
    simp only [i_digits.l1]
    rw [decide_f (by omega), cf]
    rfl
  | m + 1, fu + 1, j, e, hf => by
    have hj : j < l.length := by omega
    have hx := hb.get hj
    have hr := lack_range _ (halves_range (l.take j) (hb.take j))
    rw [halves_len, List.length_take] at hr
    have hln : (halves (l.take j)).length = 2 * j := by rw [halves_len, List.length_take]; omega
    have hstep : halves (l.take (j + 1)) = halves (l.take j) ++ [l[j] / 16, l[j] % 16] := by rw [take_snoc hj, halves_app]; rfl
    simp only [i_digits.l1]
    rw [decide_t (by omega), ct, grd_of (gIx_t (by omega) (by rw [strL_size]; omega)), grd_of (gSh_t (by decide)), grd_of (gIx_t (by omega) (by rw [strL_size]; omega)), byteAt_strL hb (by omega) (by omega), Int.toNat_natCast, List.getD_eq_getElem?_getD, List.getElem?_eq_getElem hj, Option.getD_some, hi8 hx.1 hx.2, lo8 hx.1 hx.2,
      wr (x := l[j] / 16) (by omega) (by omega), wr (x := l[j] % 16) (by omega) (by omega), grd_of (gRm_t (by simp [hln]; omega)), wr (x := 30 - l[j] / 16) (by omega) (by omega), wr (x := 30 - l[j] / 16 - l[j] % 16) (by omega) (by omega), wr (x := lack (halves (l.take j)) + _) (by omega) (by omega), wr (by omega) (by omega), show ((j : Int) + 1) = ((j + 1 : Nat) : Int) by omega, ← hstep,
      show lack (halves (l.take j)) + (30 - l[j] / 16 - l[j] % 16) = lack (halves (l.take (j + 1))) by rw [hstep, lack_app]; simp only [lack]; omega]
    exact dgl_i kke l hb hl m fu (j + 1) (by omega) (by omega)
theorem dgl_s {R : Type} (kke : Int → List Int → Option R) (l : List Int) (hb : IsBytes l) (hl : l.length = 32) (s0 : Int) : ∀ (m fu j : Nat), j + m = 8 → m < fu →
    s_l08Digits.l1 kke fu (strL l) s0 (j : Int) (halves (l.take j)) = kke s0 (dg16 l)
  | 0, fu + 1, j, e, _ => by
    obtain rfl : j = 8 := by omega
    simp only [s_l08Digits.l1]
    rw [decide_f (by omega), cf]
    rfl
  | m + 1, fu + 1, j, e, hf => by
    have hj : j < l.length := by omega
    have hx := hb.get hj
    have hln : (halves (l.take j)).length = 2 * j := by rw [halves_len, List.length_take]; omega
    have hstep : halves (l.take (j + 1)) = halves (l.take j) ++ [l[j] / 16, l[j] % 16] := by rw [take_snoc hj, halves_app]; rfl
    simp only [s_l08Digits.l1]
    rw [decide_t (by omega), ct, grd_of (gIx_t (by omega) (by rw [strL_size]; omega)), grd_of (gNz_t (by decide)), grd_of (gIx_t (by omega) (by rw [strL_size]; omega)), grd_of (gNz_t (by decide)), byteAt_strL hb (by omega) (by omega), Int.toNat_natCast, List.getD_eq_getElem?_getD, List.getElem?_eq_getElem hj, Option.getD_some, tdiv_pos hx.1, tmod_pos hx.1,
      wr8 (x := l[j] / 16) (by omega) (by omega), wr (x := l[j] / 16) (by omega) (by omega), wr (x := l[j] % 16) (by omega) (by omega), grd_of (gRm_t (by simp [hln]; omega)), wr (by omega) (by omega), show ((j : Int) + 1) = ((j + 1 : Nat) : Int) by omega, ← hstep]
    exact dgl_s kke l hb hl s0 m fu (j + 1) (by omega) (by omega)
theorem dgs_s {R : Type} (kke : Int → List Int → Option R) (o : List Int) (ho : o.length = 16) (hr : ∀ d ∈ o, 0 ≤ d ∧ d ≤ 15) : ∀ (m fu j : Nat), j + m = 16 → m < fu → s_l08Digits.l2 kke fu (lack (o.take j)) (j : Int) o = kke (lack o) o
  | 0, fu + 1, j, e, _ => by
    obtain rfl : j = 16 := by omega
    simp only [s_l08Digits.l2]
    rw [decide_f (by omega), cf, List.take_of_length_le (by omega)]
  | m + 1, fu + 1, j, e, hf => by
    have hj : j < o.length := by omega
    have hx := hr o[j] (List.getElem_mem hj)
    have hl := lack_range (o.take j) fun d hd => hr d (List.mem_of_mem_take hd)
    rw [List.length_take] at hl
    simp only [s_l08Digits.l2]
    rw [decide_t (by omega), ct, grd_of (gIx_t (by omega) (by omega)), Int.toNat_natCast, rdE_at (k := .int .i64) hj, wr (x := 15 - o[j]) (by omega) (by omega), wr (x := lack (o.take j) + _) (by omega) (by omega), wr (by omega) (by omega), show ((j : Int) + 1) = ((j + 1 : Nat) : Int) by omega,
      show lack (o.take j) + (15 - o[j]) = lack (o.take (j + 1)) by rw [take_snoc hj, lack_app]; simp only [lack]; omega]
    exact dgs_s kke o ho hr m fu (j + 1) (by omega) (by omega)
def hsh (s : ByteArray) : List Int := sha (bytesL s)
theorem dg16_len {l : List Int} (h : l.length = 32) : (dg16 l).length = 16 := by
  unfold dg16
  rw [halves_len, List.length_take]
  omega
theorem digits_i (msg : ByteArray) (h : msg.size ≤ 1000000) : i_digits msg = some (dgV (hsh msg)) := by
  unfold i_digits i_digits.F
  have e := hash_i (bytesL msg) (IsBytes.bytesL msg) (by rw [bytesL_length]; omega)
  rw [strL_bytesL] at e
  have hb := sha_bytes (bytesL msg)
  have hl := sha_len (bytesL msg)
  have h16 := dg16_len hl
  have hr := lack_range (dg16 (sha (bytesL msg))) (halves_range _ (hb.take 8))
  rw [h16] at hr
  have := dgl_i (fun sum out => grd (gNz (16 : Int)) <| grd (gNz (16 : Int)) <| grd (gRm (((List.length out) + (List.length [IntKind.wrap .i64 (Int.tdiv sum (16 : Int)), Int.tmod sum (16 : Int)])) * 8)) <| some (out ++ [IntKind.wrap .i64 (Int.tdiv sum (16 : Int)), Int.tmod sum (16 : Int)])) (sha (bytesL msg)) hb hl 8 fuel 0 (by omega) (fuel_big (by decide))
  rw [List.take_zero, Int.natCast_zero] at this
  rw [e, bs]
  refine (show _ = _ from this).trans ?_
  rw [grd_of (gNz_t (by decide)), grd_of (gNz_t (by decide)), grd_of (gRm_t (by simp [h16])), tdiv_pos hr.1, tmod_pos hr.1, wr (by omega) (by omega)]
  rfl
theorem digits_s (msg : ByteArray) (h : msg.size ≤ 1000000) : s_l08Digits msg = some (dgV (hsh msg)) := by
  unfold s_l08Digits s_l08Digits.F
  have e := hash_s (bytesL msg) (IsBytes.bytesL msg) (by rw [bytesL_length]; omega)
  have hb := sha_bytes (bytesL msg)
  have hl := sha_len (bytesL msg)
  have h16 := dg16_len hl
  have hr := lack_range (dg16 (sha (bytesL msg))) (halves_range _ (hb.take 8))
  rw [h16] at hr
  have := dgl_s (fun sum out => s_l08Digits.l2 (fun sum1 out1 => grd (gNz (16 : Int)) <| grd (gNz (16 : Int)) <| grd (gRm (((List.length out1) + (List.length [IntKind.wrap .i64 (Int.tdiv sum1 (16 : Int)), Int.tmod sum1 (16 : Int)])) * 8)) <| some (out1 ++ [IntKind.wrap .i64 (Int.tdiv sum1 (16 : Int)), Int.tmod sum1 (16 : Int)])) fuel sum (0 : Int) out) (sha (bytesL msg)) hb hl 0 8 fuel 0 (by omega) (fuel_big (by decide))
  rw [List.take_zero, Int.natCast_zero] at this
  rw [e, bs]
  refine (show _ = _ from this).trans ?_
  have h2 := dgs_s (fun sum1 out1 => grd (gNz (16 : Int)) <| grd (gNz (16 : Int)) <| grd (gRm (((List.length out1) + (List.length [IntKind.wrap .i64 (Int.tdiv sum1 (16 : Int)), Int.tmod sum1 (16 : Int)])) * 8)) <| some (out1 ++ [IntKind.wrap .i64 (Int.tdiv sum1 (16 : Int)), Int.tmod sum1 (16 : Int)])) (dg16 (sha (bytesL msg))) h16 (halves_range _ (hb.take 8)) 16 fuel 0 (by omega) (fuel_big (by decide))
  rw [List.take_zero, Int.natCast_zero] at h2
  refine (show _ = _ from h2).trans ?_
  rw [grd_of (gNz_t (by decide)), grd_of (gNz_t (by decide)), grd_of (gRm_t (by simp [h16])), tdiv_pos hr.1, tmod_pos hr.1, wr (by omega) (by omega)]
  rfl
theorem dgV_len (s : ByteArray) : (dgV (hsh s)).length = 18 := by
  unfold dgV hsh
  rw [List.length_append, dg16_len (sha_len _)]
  rfl
theorem dgV_range (s : ByteArray) : ∀ d ∈ dgV (hsh s), 0 ≤ d ∧ d ≤ 15 := by
  have hb := sha_bytes (bytesL s)
  have hh := halves_range _ (hb.take 8)
  have hr := lack_range (dg16 (sha (bytesL s))) hh
  rw [dg16_len (sha_len _)] at hr
  intro d hd
  unfold dgV hsh at hd
  rcases List.mem_append.1 hd with hd | hd
  · exact hh d hd
  · simp only [List.mem_cons, List.not_mem_nil, or_false] at hd
    rcases hd with rfl | rfl <;> omega
end Go.Proofs.YtdpjbeeokimnaaaGreatDoorA

/-
  Chains, signatures, and a trust that goes on: as the program and as the reference have them. No condition.
-/
namespace Go.Proofs.YtdpjbeeokimnaaaGreatDoorA
open Go
set_option linter.unusedVariables false
set_option linter.unusedSimpArgs false

/-! ### Chains -/
/-- 'm' steps of hashing, the first of the number 'i'. -/
def chV : Nat → Int → ByteArray → ByteArray
  | 0, _, h => h
  | m + 1, i, h => chV m (i + 1) (strL (sha (3 :: i :: bytesL h)))
theorem b3 : (⟨#[3]⟩ : ByteArray) = strL [3] := rfl
theorem b5 : (⟨#[5]⟩ : ByteArray) = strL [5] := rfl
theorem step_bytes (i : Int) (h0 : 0 ≤ i) (h1 : i < 256) (h : ByteArray) : IsBytes (3 :: i :: bytesL h) := IsBytes.cons (by decide) (by decide) (IsBytes.cons h0 h1 (IsBytes.bytesL h))
theorem chain_i {R : Type} (kke : ByteArray → Option R) (frm steps : Int) (h0 : 0 ≤ frm) (h1 : frm + steps ≤ 15) : ∀ (m fu : Nat) (i : Int) (h : ByteArray), i + m = frm + steps → m < fu → 0 ≤ i → h.size ≤ 1000000 → i_chain.l1 kke fu h frm steps i = kke (chV m i h)
  | 0, fu + 1, i, h, e, _, _, _ => by
    simp only [i_chain.l1]
    rw [wr (by omega) (by omega), decide_f (by omega), cf]
    rfl
  | m + 1, fu + 1, i, h, e, hf, hi, hh => by
    have hl : (3 :: i :: bytesL h).length ≤ 1000000000000 := by simp [bytesL_length]; omega
    simp only [i_chain.l1]
    rw [wr (x := frm + steps) (by omega) (by omega), decide_t (by omega), ct, number1, bs, beL1, show i % 256 = i by omega, b3, strL_append, grd_of (gCat_t (by rw [strL_size, strL_size]; simp)), grd_of (gCat_t (by rw [strL_size]; simp; omega)),
      show strL ([3] ++ [i]) ++ h = strL (3 :: i :: bytesL h) by rw [← strL_bytesL h, strL_append, bytesL_strL (IsBytes.bytesL h)]; rfl, hash_i _ (step_bytes i hi (by omega) h) hl, bs, wr (by omega) (by omega)]
    exact chain_i kke frm steps h0 h1 m fu (i + 1) _ (by omega) (by omega) (by omega) (by rw [strL_size, sha_len]; decide)
theorem chain_s {R : Type} (kke : ByteArray → Option R) (frm steps : Int) (h0 : 0 ≤ frm) (h1 : frm + steps ≤ 15) : ∀ (m fu : Nat) (j : Int) (h : ByteArray), j + m = steps → m < fu → 0 ≤ j → h.size ≤ 1000000 → s_l08Chain.l1 kke fu h frm steps j = kke (chV m (frm + j) h)
  | 0, fu + 1, j, h, e, _, _, _ => by
    simp only [s_l08Chain.l1]
    rw [decide_f (by omega), cf]
    rfl
  | m + 1, fu + 1, j, h, e, hf, hj, hh => by
    have hl : (3 :: (frm + j) :: bytesL h).length ≤ 1000000000000 := by simp [bytesL_length]; omega
    simp only [s_l08Chain.l1]
    rw [decide_t (by omega), ct, grd_of (gRm_t (by simp [bytesL_length]; omega)), wr (x := frm + j) (by omega) (by omega), wr8 (by omega) (by omega), show ([(3 : Int), frm + j] ++ bytesL h) = 3 :: (frm + j) :: bytesL h from rfl, hash_s _ (step_bytes _ (by omega) (by omega) h) hl, bs, wr (by omega) (by omega)]
    rw [chain_s kke frm steps h0 h1 m fu (j + 1) _ (by omega) (by omega) (by omega) (by rw [strL_size, sha_len]; decide)]
    simp only [chV]
    rw [Int.add_assoc]
theorem chV_size : ∀ (m : Nat) (i : Int) (h : ByteArray), h.size ≤ 32 → (chV m i h).size ≤ 32
  | 0, _, _, hh => hh
  | m + 1, i, h, hh => chV_size m _ _ (by rw [strL_size, sha_len]; decide)
/-- From a digit up to the end. -/
def endV (d : Int) (h : ByteArray) : ByteArray := chV (15 - d).toNat d h
theorem end_i (d : Int) (h0 : 0 ≤ d) (h1 : d ≤ 15) (h : ByteArray) (hh : h.size ≤ 1000000) : i_chain h d (IntKind.wrap .i64 (15 - d)) = some (endV d h) := by
  rw [wr (by omega) (by omega)]
  unfold i_chain i_chain.F
  exact chain_i (fun s => some s) d (15 - d) h0 (by omega) (15 - d).toNat fuel d h (by omega) (fuel_big (by omega)) h0 hh
theorem end_s (d : Int) (h0 : 0 ≤ d) (h1 : d ≤ 15) (h : ByteArray) (hh : h.size ≤ 1000000) : s_l08Chain h d (IntKind.wrap .i64 (15 - d)) = some (endV d h) := by
  rw [wr (by omega) (by omega)]
  unfold s_l08Chain s_l08Chain.F
  have := chain_s (fun s => some s) d (15 - d) h0 (by omega) (15 - d).toNat fuel 0 h (by omega) (fuel_big (by omega)) (by omega) hh
  rw [Int.add_zero] at this
  exact this
def endsL (l : List ByteArray) : List Int := l.flatMap bytesL
theorem endsL_len : ∀ (l : List ByteArray), (∀ s ∈ l, s.size ≤ 32) → (endsL l).length ≤ 32 * l.length
  | [], _ => by simp [endsL]
  | s :: l, h => by
    have := endsL_len l fun t ht => h t (by simp [ht])
    have h1 := h s (by simp)
    have e : endsL (s :: l) = bytesL s ++ endsL l := rfl
    rw [e, List.length_append, bytesL_length, List.length_cons]
    omega
theorem endsL_bytes : ∀ (l : List ByteArray), IsBytes (endsL l)
  | [] => IsBytes.nil
  | s :: l => (IsBytes.bytesL s).append (endsL_bytes l)
theorem ends_i {R : Type} (kke : ByteArray → Option R) (l : List ByteArray) (hl : l.length ≤ 1000) (hs : ∀ s ∈ l, s.size ≤ 32) : ∀ (m fu j : Nat) (a : List Int), j + m = l.length → m < fu → a.length + 32 * m ≤ 100000 → i_endsLeaf.l1 kke fu (strL a) l (l.length : Int) (j : Int) = kke (strL (a ++ endsL (l.drop j)))
  | 0, fu + 1, j, a, e, _, _ => by
    simp only [i_endsLeaf.l1]
    rw [decide_f (by omega), cf, List.drop_of_length_le (by omega)]
    simp [endsL]
  | m + 1, fu + 1, j, a, e, hf, ha => by
    have hj : j < l.length := by omega
    have hx := hs _ (List.getElem_mem hj)
    simp only [i_endsLeaf.l1]
    rw [decide_t (by omega), ct, grd_of (gIx_t (by omega) (by omega)), Int.toNat_natCast, rdE_at (k := .str) hj, grd_of (gCat_t (by rw [strL_size]; omega)), wr (by omega) (by omega), show ((j : Int) + 1) = ((j + 1 : Nat) : Int) by omega,
      show strL a ++ l[j] = strL (a ++ bytesL l[j]) by rw [← strL_append, strL_bytesL], ends_i kke l hl hs m fu (j + 1) _ (by omega) (by omega) (by rw [List.length_append, bytesL_length]; omega), drop_cons hj, List.append_assoc]
    rfl
theorem ends_s {R : Type} (kke : List Int → Option R) (l : List ByteArray) (hl : l.length ≤ 1000) (hs : ∀ s ∈ l, s.size ≤ 32) : ∀ (m fu j : Nat) (a : List Int), j + m = l.length → m < fu → a.length + 32 * m ≤ 100000 → s_l08Ends.l1 kke fu l (j : Int) a = kke (a ++ endsL (l.drop j))
  | 0, fu + 1, j, a, e, _, _ => by
    simp only [s_l08Ends.l1]
    rw [decide_f (by omega), cf, List.drop_of_length_le (by omega)]
    simp [endsL]
  | m + 1, fu + 1, j, a, e, hf, ha => by
    have hj : j < l.length := by omega
    have hx := hs _ (List.getElem_mem hj)
    simp only [s_l08Ends.l1]
    rw [decide_t (by omega), ct, grd_of (gIx_t (by omega) (by omega)), Int.toNat_natCast, rdE_at (k := .str) hj, grd_of (gRm_t (by rw [bytesL_length]; omega)), wr (by omega) (by omega), show ((j : Int) + 1) = ((j + 1 : Nat) : Int) by omega,
      ends_s kke l hl hs m fu (j + 1) _ (by omega) (by omega) (by rw [List.length_append, bytesL_length]; omega), drop_cons hj, List.append_assoc]
    rfl
def endsV (l : List ByteArray) : ByteArray := strL (sha (5 :: endsL l))
theorem endsV_size (l : List ByteArray) : (endsV l).size = 32 := by rw [endsV, strL_size, sha_len]
theorem endsLeaf_i (l : List ByteArray) (hl : l.length ≤ 1000) (hs : ∀ s ∈ l, s.size ≤ 32) : i_endsLeaf l = some (endsV l) := by
  have hn := endsL_len l hs
  unfold i_endsLeaf i_endsLeaf.F
  have := ends_i (fun all => (i_hash all).bind fun r => some r) l hl hs l.length fuel 0 [5] (by omega) (fuel_big (by omega)) (by simp; omega)
  rw [Int.natCast_zero, List.drop_zero] at this
  rw [b5]
  refine (show _ = _ from this).trans ?_
  rw [show ([5] ++ endsL l) = 5 :: endsL l from rfl, hash_i _ (IsBytes.cons (by decide) (by decide) (endsL_bytes l)) (by simp; omega)]
  rfl
theorem endsLeaf_s (l : List ByteArray) (hl : l.length ≤ 1000) (hs : ∀ s ∈ l, s.size ≤ 32) : s_l08Ends l = some (endsV l) := by
  have hn := endsL_len l hs
  unfold s_l08Ends s_l08Ends.F
  have := ends_s (fun b => (s_l01Hash b).bind fun r => some r) l hl hs l.length fuel 0 [5] (by omega) (fuel_big (by omega)) (by simp; omega)
  rw [Int.natCast_zero, List.drop_zero] at this
  refine (show _ = _ from this).trans ?_
  rw [show ([5] ++ endsL l) = 5 :: endsL l from rfl, hash_s _ (IsBytes.cons (by decide) (by decide) (endsL_bytes l)) (by simp; omega)]
  rfl

/-! ### What a signature leads to -/
def endsOf (ds : List Int) (ps : List ByteArray) : List ByteArray := List.zipWith endV ds ps
theorem leads_i {R : Type} (kke : ByteArray → Int → List ByteArray → List ByteArray → List ByteArray → Option R) (root : ByteArray) (idx : Int) (ps path : List ByteArray) (ds : List Int) (hd : ∀ d ∈ ds, 0 ≤ d ∧ d ≤ 15) (hl : ds.length = 18) (hp : ps.length = 18) (hs : ∀ s ∈ ps, s.size ≤ 32) :
    ∀ (m fu j : Nat) (e : List ByteArray), j + m = 18 → m < fu → e.length = j → i_Signature_leadsTo.l1 kke fu root (ds.length : Int) (j : Int) idx ps path e ds = kke root idx ps path (e ++ endsOf (ds.drop j) (ps.drop j))
  | 0, fu + 1, j, e, h, _, he => by
    simp only [i_Signature_leadsTo.l1]
    rw [decide_f (by omega), cf, List.drop_of_length_le (by omega)]
    simp [endsOf]
  | m + 1, fu + 1, j, e, h, hf, he => by
    have hj : j < ds.length := by omega
    have hk : j < ps.length := by omega
    have hx := hd _ (List.getElem_mem hj)
    have hy := hs _ (List.getElem_mem hk)
    simp only [i_Signature_leadsTo.l1]
    rw [decide_t (by omega), ct, grd_of (gIx_t (by omega) (by omega)), grd_of (gIx_t (by omega) (by omega)), Int.toNat_natCast, rdE_at (k := .str) hk, rdE_at (k := .int .i64) hj, end_i _ hx.1 hx.2 _ (by omega), bs, grd_of (gRm_t (by simp; omega)), wr (by omega) (by omega), show ((j : Int) + 1) = ((j + 1 : Nat) : Int) by omega,
      leads_i kke root idx ps path ds hd hl hp hs m fu (j + 1) _ (by omega) (by omega) (by simp; omega), drop_cons hj, drop_cons hk, List.append_assoc]
    rfl
theorem leads_s {R : Type} (kke : Int → List ByteArray → List ByteArray → List ByteArray → Option R) (idx : Int) (ps path : List ByteArray) (ds : List Int) (hd : ∀ d ∈ ds, 0 ≤ d ∧ d ≤ 15) (hl : ds.length = 18) (hp : ps.length = 18) (hs : ∀ s ∈ ps, s.size ≤ 32) :
    ∀ (m fu j : Nat) (e : List ByteArray), j + m = 18 → m < fu → e.length = j → s_l08Root.l1 kke fu (j : Int) idx ps path e ds = kke idx ps path (e ++ endsOf (ds.drop j) (ps.drop j))
  | 0, fu + 1, j, e, h, _, he => by
    simp only [s_l08Root.l1]
    rw [decide_f (by omega), cf, List.drop_of_length_le (by omega)]
    simp [endsOf]
  | m + 1, fu + 1, j, e, h, hf, he => by
    have hj : j < ds.length := by omega
    have hk : j < ps.length := by omega
    have hx := hd _ (List.getElem_mem hj)
    have hy := hs _ (List.getElem_mem hk)
    simp only [s_l08Root.l1]
    rw [decide_t (by omega), ct, grd_of (gIx_t (by omega) (by omega)), grd_of (gIx_t (by omega) (by omega)), grd_of (gIx_t (by omega) (by omega)), Int.toNat_natCast, rdE_at (k := .str) hk, rdE_at (k := .int .i64) hj, end_s _ hx.1 hx.2 _ (by omega), bs, grd_of (gRm_t (by simp; omega)), wr (by omega) (by omega), show ((j : Int) + 1) = ((j + 1 : Nat) : Int) by omega,
      leads_s kke idx ps path ds hd hl hp hs m fu (j + 1) _ (by omega) (by omega) (by simp; omega), drop_cons hj, drop_cons hk, List.append_assoc]
    rfl
theorem endsOf_size : ∀ (ds : List Int) (ps : List ByteArray), (∀ s ∈ ps, s.size ≤ 32) → ∀ s ∈ endsOf ds ps, s.size ≤ 32
  | [], ps, _, s, h => by simp [endsOf] at h
  | _ :: _, [], _, s, h => by simp [endsOf] at h
  | d :: ds, p :: ps, hp, s, h => by
    simp only [endsOf, List.zipWith_cons_cons, List.mem_cons] at h
    rcases h with rfl | h
    · exact chV_size _ _ _ (hp p (by simp))
    · exact endsOf_size ds ps (fun s hs => hp s (by simp [hs])) s h
def leafOf (msg : ByteArray) (ps : List ByteArray) : ByteArray := endsV (endsOf (dgV (hsh msg)) ps)
theorem leadsTo_eq (idx : Int) (ps path : List ByteArray) (root msg : ByteArray) (hm : msg.size ≤ 1000000) (h0 : 0 ≤ idx) (h1 : idx ≤ 3) (hp : ps.length = 18) (hs : ∀ s ∈ ps, s.size ≤ 32) (hq : Small path) :
    i_Signature_leadsTo idx ps path root msg = some (if path.length = (ways 64 idx 4).length then (sEq (foldW (leafOf msg ps) (ways 64 idx 4) path) root, true) else (sEq ByteArray.empty root, false)) ∧
    ∃ own, s_l08Root msg idx ps path = some (own, decide (path.length = (ways 64 idx 4).length)) ∧ (path.length = (ways 64 idx 4).length → own = foldW (leafOf msg ps) (ways 64 idx 4) path) := by
  have hr := dgV_range msg
  have hl := dgV_len msg
  have hz : (endsOf (dgV (hsh msg)) ps).length ≤ 1000 := by simp [endsOf]; omega
  have hw := endsOf_size (dgV (hsh msg)) ps hs
  constructor
  · unfold i_Signature_leadsTo i_Signature_leadsTo.F
    rw [digits_i msg hm, bs]
    have := leads_i (fun root1 x x1 x2 ends => (i_endsLeaf ends).bind fun r1 => (i_inclusionRoot r1 x (4 : Int) x2).bind fun r2 => some (sEq r2.1 root1, r2.2.2 == (0 : Int))) root idx ps path (dgV (hsh msg)) hr hl hp hs 18 fuel 0 [] (by omega) (fuel_big (by decide)) rfl
    rw [Int.natCast_zero, List.drop_zero, List.drop_zero, List.nil_append] at this
    refine (show _ = _ from this).trans ?_
    rw [endsLeaf_i _ hz hw, bs, inclusionRoot_i _ idx 4 path (by rw [endsV_size]; decide) hq, if_pos ⟨⟨by decide, by decide⟩, h0, by omega⟩, bs]
    unfold leafOf
    by_cases h3 : path.length = (ways 64 idx 4).length
    · rw [if_pos h3, if_pos h3]
      rfl
    · rw [if_neg h3, if_neg h3]
      rfl
  · obtain ⟨own, i1, i2, i3⟩ := up_s (leafOf msg ps) (by rw [leafOf, endsV_size]; decide) 64 fuel idx 4 path (by decide) (by decide) (fuel_big (by decide)) (by decide) (by omega) (by omega) hq
    refine ⟨own, ?_, i3⟩
    unfold s_l08Root s_l08Root.F
    rw [digits_s msg hm, bs]
    have := leads_s (fun x x1 x2 ends => (s_l08Ends ends).bind fun r1 => (s_l06Up fuel r1 x (4 : Int) x2).bind fun r2 => some (r2.1, r2.2)) idx ps path (dgV (hsh msg)) hr hl hp hs 18 fuel 0 [] (by omega) (fuel_big (by decide)) rfl
    rw [Int.natCast_zero, List.drop_zero, List.drop_zero, List.nil_append] at this
    refine (show _ = _ from this).trans ?_
    rw [endsLeaf_s _ hz hw, bs, show endsV (endsOf (dgV (hsh msg)) ps) = leafOf msg ps from rfl, i1, bs]
theorem isList_eq (l : List ByteArray) : i_isList_string l = some (decide (l.length ≤ 4096)) := by
  unfold i_isList_string i_isList_string.F
  congr 1
  rw [decide_eq_decide]
  omega
theorem verify_eq (root msg : ByteArray) (idx : Int) (ps path : List ByteArray) (hm : msg.size ≤ 65536) (hp : ps.length ≤ 1048576) (hq : path.length ≤ 1048576) :
    ∃ c, i_VerifySignature root msg idx ps path = some c ∧ s_VerifySignature root msg idx ps path = some c := by
  unfold i_VerifySignature i_VerifySignature.F i_VerifySignature.j1 i_VerifySignature.j2 s_VerifySignature s_VerifySignature.F
  rw [isText_eq [root, msg] (by simp), bs, show [root, msg].all isTx = decide (root.size ≤ 65536) by simp [isTx, hm]]
  simp only [isList_eq, isHash_eq [root] (by simp), isHash_eq ps (show ps.length ≤ 1000000000 by omega), isHash_eq path (show path.length ≤ 1000000000 by omega), l06Hashes_eq ps (show ps.length ≤ 1000000000 by omega), l06Hashes_eq path (show path.length ≤ 1000000000 by omega), bs, show [root].all is32 = is32 root by simp, size32']
  have d0 : decide ((msg.size : Int) > 65536) = false := decide_f (by omega)
  rw [d0]
  by_cases h1 : root.size ≤ 65536
  · have d1 : decide ((root.size : Int) > 65536) = false := decide_f (by omega)
    rw [decide_t h1, d1]
    by_cases h2 : ps.length ≤ 4096
    · have d2 : decide ((ps.length : Int) > 4096) = false := decide_f (by omega)
      rw [decide_t h2, d2]
      by_cases h3 : path.length ≤ 4096
      · have d3 : decide ((path.length : Int) > 4096) = false := decide_f (by omega)
        have hx : decide (mx2 (ps.length : Int) (path.length : Int) > 64) = !(decide (ps.length ≤ 64) && decide (path.length ≤ 64)) := by
          rw [Bool.eq_iff_iff, decide_eq_true_iff, Bool.not_eq_true', Bool.and_eq_false_iff, decide_eq_false_iff_not, decide_eq_false_iff_not]
          unfold mx2
          split <;> omega
        rw [decide_t h3, d3, hx]
        cases hr : is32 root with
        | false => exact ⟨1, rfl, rfl⟩
        | true =>
          by_cases h4 : ps.length ≤ 64
          · by_cases h5 : path.length ≤ 64
            · rw [decide_t h4, decide_t h5]
              cases h6 : ps.all is32 with
              | false => exact ⟨1, rfl, rfl⟩
              | true =>
                cases h7 : path.all is32 with
                | false => exact ⟨1, rfl, rfl⟩
                | true =>
                  simp only [Bool.not_true, Bool.and_self, cf, within_eq, s_l08Index, s_l08Index.F, l01In_eq, bs]
                  by_cases h8 : 0 ≤ idx ∧ idx ≤ 3
                  · rw [decide_t h8.1, decide_t h8.2, Bool.and_self, Bool.not_true, cf, cf]
                    by_cases h9 : ps.length = 18
                    · have hps : ∀ s ∈ ps, s.size ≤ 32 := fun s hs => by have := of_decide_eq_true (List.all_eq_true.1 h6 s hs); omega
                      have hpa : Small path := ⟨by omega, fun s hs => by have := of_decide_eq_true (List.all_eq_true.1 h7 s hs); omega⟩
                      obtain ⟨e1, own, e2, e3⟩ := leadsTo_eq idx ps path root msg (by omega) h8.1 h8.2 h9 hps hpa
                      rw [show ((ps.length : Int) != 18) = false by simp [h9], cf, cf, e1, e2, bs, bs]
                      by_cases ha : path.length = (ways 64 idx 4).length
                      · rw [if_pos ha, decide_t ha, e3 ha]
                        dsimp only
                        rw [Bool.not_true, cf]
                        cases sEq (foldW (leafOf msg ps) (ways 64 idx 4) path) root
                        · exact ⟨12, rfl, rfl⟩
                        · exact ⟨0, rfl, rfl⟩
                      · rw [if_neg ha, decide_f ha]
                        exact ⟨10, rfl, rfl⟩
                    · rw [show ((ps.length : Int) != 18) = true by simp; omega]
                      exact ⟨4, rfl, rfl⟩
                  · rw [show (decide (0 ≤ idx) && decide (idx ≤ 3)) = false by rw [← Bool.not_eq_true, Bool.and_eq_true, decide_eq_true_iff, decide_eq_true_iff]; exact h8]
                    exact ⟨4, rfl, rfl⟩
            · rw [decide_t h4, decide_f h5]
              cases ps.all is32 <;> exact ⟨1, rfl, rfl⟩
          · rw [decide_f h4]
            exact ⟨1, rfl, rfl⟩
      · have d3 : decide ((path.length : Int) > 4096) = true := decide_t (by omega)
        rw [decide_f h3, d3]
        exact ⟨2, rfl, rfl⟩
    · have d2 : decide ((ps.length : Int) > 4096) = true := decide_t (by omega)
      rw [decide_f h2, d2]
      exact ⟨2, rfl, rfl⟩
  · have d1 : decide ((root.size : Int) > 65536) = true := decide_t (by omega)
    rw [decide_f h1, d1]
    exact ⟨2, rfl, rfl⟩

/-! ### A trust goes on -/
theorem grows_i (ws : Int) (wl wm : ByteArray) (ns : Int) (nl nm : ByteArray) (proof : List ByteArray) (hr : wl.size ≤ 1000000) (hp : Small proof) (h1 : 1 ≤ ws) (h2 : ws ≤ ns) (h3 : ns ≤ 64) :
    i_grows ws wl wm ns nl nm proof = some (if proof.length = grN 64 ws ns true then (cond (sEq (grV wl 64 ws ns true proof).1 wl && sEq (grV wl 64 ws ns true proof).2 nl) 0 19) else 10) := by
  unfold i_grows i_grows.F
  rw [growthRoots_i wl hr proof hp ws ns h1 h2 h3, bs]
  by_cases h : proof.length = grN 64 ws ns true
  · rw [if_pos h, if_pos h]
    dsimp only
    rw [bne_self_eq_false, cf]
    cases sEq (grV wl 64 ws ns true proof).1 wl
    · rfl
    · cases sEq (grV wl 64 ws ns true proof).2 nl <;> rfl
  · rw [if_neg h, if_neg h]
    rfl
theorem advance_eq (K : ByteArray) (H : Bool) (S : Int) (L M : ByteArray) (S' : Int) (L' M' : ByteArray) (idx : Int) (ps path proof : List ByteArray) (hp : ps.length ≤ 1048576) (hq : path.length ≤ 1048576) (ho : proof.length ≤ 1048576) :
    ∃ r, i_Advance K H S L M S' L' M' idx ps path proof = some r ∧ s_Advance K H S L M S' L' M' idx ps path proof = some r := by
  unfold i_Advance i_Advance.F s_Advance s_Advance.F
  rw [proofCode_nil proof (by omega), bs, trustOK_i, trustOK_s, statementOK_i, statement_s, l06Hashes_eq proof (by omega)]
  simp only [bs]
  by_cases h0 : proof.length > 4096
  · rw [if_pos h0, decide_t (show (proof.length : Int) > 4096 by omega)]
    exact ⟨_, rfl, rfl⟩
  · rw [if_neg h0, decide_f (show ¬ (proof.length : Int) > 4096 by omega), cf]
    cases ht : trOK K H S L M with
    | false =>
      cases (decide (proof.length ≤ 64) && proof.all is32) <;> exact ⟨_, rfl, rfl⟩
    | true =>
      rw [Bool.not_true, cf, cf]
      cases hst : stmOK S' L' M' with
      | false =>
        cases (decide (proof.length ≤ 64) && proof.all is32) <;> exact ⟨_, rfl, rfl⟩
      | true =>
        rw [Bool.not_true, cf, cf]
        cases hpr : (decide (proof.length ≤ 64) && proof.all is32) with
        | false => exact ⟨_, rfl, rfl⟩
        | true =>
          obtain ⟨hsm, h64⟩ := small_of (p := proof) hpr
          obtain ⟨hS', hL', hM'⟩ := stm_parts hst
          rw [if_pos rfl, bne_self_eq_false, cf, Bool.not_true, cf, text_i hst, text_s hst, bs, bs]
          have hsz := txV_size hst
          obtain ⟨c, e1, e2⟩ := verify_eq K (txV S' L' M') idx ps path (by omega) hp hq
          rw [e1, e2, bs, bs]
          by_cases hc : c = 0
          · subst hc
            rw [bne_self_eq_false, cf, cf]
            unfold i_Trust_advances i_Trust_advances.F i_Trust_advances.j1 i_Trust_advances.j2 i_Trust_advances.j3 s_Advance.j2 s_Advance.j1 s_Advance.j3 i_Trust_last i_Trust_last.F
            rw [bs]
            dsimp only
            cases H with
            | false =>
              simp only [cf]
              by_cases hz : proof.length = 0
              · rw [decide_f (by omega), cf]
                exact ⟨_, rfl, rfl⟩
              · rw [decide_t (by omega), ct]
                exact ⟨_, rfl, rfl⟩
            | true =>
              simp only [ct]
              have ht2 : stmOK S L M = true := by
                unfold trOK at ht
                rw [cond_true, Bool.and_eq_true] at ht
                exact ht.2
              obtain ⟨hS, hL, hM⟩ := stm_parts ht2
              by_cases k1 : S' < S
              · rw [decide_t k1, ct]
                exact ⟨_, rfl, rfl⟩
              · rw [decide_f k1, cf]
                by_cases k2 : S' = S
                · subst k2
                  simp only [beq_self_eq_true, ct, Bool.true_and, decide_f (Int.lt_irrefl S'), decide_f (show ¬ S' > S' from Int.lt_irrefl S'), cf]
                  cases sEq L' L with
                  | false => exact ⟨_, rfl, rfl⟩
                  | true =>
                    cases sEq M' M with
                    | false => exact ⟨_, rfl, rfl⟩
                    | true =>
                      simp only [Bool.and_self, Bool.not_true, cf]
                      have e : ∀ {R : Type} (b : Bool) (x : Option R), cond b x x = x := fun b x => by cases b <;> rfl
                      rw [e, e]
                      by_cases hz : proof.length = 0
                      · rw [decide_f (by omega), cf]
                        exact ⟨_, rfl, rfl⟩
                      · rw [decide_t (by omega), ct]
                        exact ⟨_, rfl, rfl⟩
                · have k3 : S' > S := by omega
                  rw [show (S' == S) = false by simpa using k2]
                  simp only [cf, decide_t k3]
                  by_cases k4 : S > 0
                  · rw [decide_t k4, ct, ct]
                    obtain ⟨a, b, i1, i2, i3, i4⟩ := grow_s L (by omega) 64 fuel S S' true proof (by omega) (by omega) (by omega) (fuel_big (by decide)) (by decide) hsm
                    rw [grows_i S L M S' L' M' proof (by omega) hsm (by omega) (by omega) (by omega), bs, i1]
                    simp only [ct, bs]
                    by_cases k5 : proof.length = grN 64 S S' true
                    · have hab := i4 k5
                      rw [if_pos k5, decide_t k5, ← hab]
                      dsimp only
                      rw [Bool.not_true, cf]
                      cases sEq a L with
                      | false => exact ⟨_, rfl, rfl⟩
                      | true => cases sEq b L' <;> exact ⟨_, rfl, rfl⟩
                    · rw [if_neg k5, decide_f k5]
                      exact ⟨_, rfl, rfl⟩
                  · rw [decide_f k4, cf, cf]
                    by_cases hz : proof.length = 0
                    · rw [decide_f (by omega), cf]
                      exact ⟨_, rfl, rfl⟩
                    · rw [decide_t (by omega), ct]
                      exact ⟨_, rfl, rfl⟩
          · rw [show (c != 0) = true by simpa using hc]
            exact ⟨_, rfl, rfl⟩
end Go.Proofs.YtdpjbeeokimnaaaGreatDoorA

/-
  The law FnExactAdvance: its pure statement holds. No condition.
-/
namespace Go.Proofs.YtdpjbeeokimnaaaGreatDoorA
open Go
set_option linter.unusedVariables false
set_option linter.unusedSimpArgs false

theorem eqTrust_self (K : ByteArray) (H : Bool) (S : Int) (L M : ByteArray) : l_eqTrust K H S L M K H S L M = some true := by
  unfold l_eqTrust l_eqTrust.F
  simp only [sEq_self, beq_self_eq_true, bne_self_eq_false, Bool.not_true, cf]
theorem szStatement_eq (S : Int) (L M : ByteArray) (left : Int) (hL : L.size ≤ 140737488351232) (hM : M.size ≤ 140737488351232) (h0 : 0 ≤ left) (h1 : left ≤ 1048576) : ∃ r, l_szStatement S L M left = some r ∧ r ≤ left := by
  unfold l_szStatement l_szStatement.F
  rw [wr (x := left - (L.size : Int)) (by omega) (by omega), wr (x := left - (L.size : Int) - (M.size : Int)) (by omega) (by omega)]
  by_cases h2 : left - (L.size : Int) < 0
  · rw [decide_t h2, ct]
    exact ⟨_, rfl, by omega⟩
  · rw [decide_f h2, cf]
    by_cases h3 : left - (L.size : Int) - (M.size : Int) < 0
    · rw [decide_t h3, ct]
      exact ⟨_, rfl, by omega⟩
    · rw [decide_f h3, cf]
      exact ⟨_, rfl, by omega⟩
theorem szSignature_eq (idx : Int) (ps path : List ByteArray) (left : Int) (h0 : 0 ≤ left) (h1 : left ≤ 1048576) (hp : ps.length ≤ 9223372036854775) (hps : ∀ s ∈ ps, s.size ≤ 140737488351232) (hq : path.length ≤ 9223372036854775) (hqs : ∀ s ∈ path, s.size ≤ 140737488351232) :
    ∃ r, l_szSignature idx ps path left = some r ∧ r ≤ left ∧ (¬ r < 0 → ps.length ≤ 1048576 ∧ path.length ≤ 1048576) := by
  unfold l_szSignature l_szSignature.F
  obtain ⟨r, e1, e2, e3⟩ := szStringS_eq ps left h0 h1 hp hps
  rw [e1, bs]
  by_cases hr : r < 0
  · rw [decide_t hr, ct]
    exact ⟨_, rfl, by omega, fun h => by omega⟩
  · rw [decide_f hr, cf]
    obtain ⟨r1, f1, f2, f3⟩ := szStringS_eq path r (by omega) (by omega) hq hqs
    rw [f1, bs]
    by_cases hr1 : r1 < 0
    · rw [decide_t hr1, ct]
      exact ⟨_, rfl, by omega, fun h => by omega⟩
    · rw [decide_f hr1, cf]
      exact ⟨_, rfl, by omega, fun _ => ⟨(e3 hr).len, (f3 hr1).len⟩⟩
theorem toSignature_eq (idx : Int) (ps path : List ByteArray) (hp : ps.length ≤ 1048576) (hq : path.length ≤ 1048576) : l_toSignature idx ps path = some (idx, ps, path) := by
  unfold l_toSignature l_toSignature.F
  rw [toStringS_eq ps hp, toStringS_eq path hq]
  rfl
theorem eqSignature_self (idx : Int) (ps path : List ByteArray) (hp : ps.length ≤ 1048576) (hq : path.length ≤ 1048576) : l_eqSignature idx ps path idx ps path = some true := by
  unfold l_eqSignature l_eqSignature.F
  rw [bne_self_eq_false, cf, eqStringS_self ps hp, bs, Bool.not_true, cf, eqStringS_self path hq]
  rfl
theorem pFnExactAdvance : ∀ (x0 : El kTrust) (x1 : El kStatement) (x2 : El kSignature) (x3 : El (.list .str)), ((ByteArray.size x0.1 ≤ 140737488351232) ∧ ((True) ∧ (((Lit.int .i64 x0.2.2.1).wf = true) ∧ ((ByteArray.size x0.2.2.2.1 ≤ 140737488351232) ∧ (ByteArray.size x0.2.2.2.2 ≤ 140737488351232))))) → (((Lit.int .i64 x1.1).wf = true) ∧ ((ByteArray.size x1.2.1 ≤ 140737488351232) ∧ (ByteArray.size x1.2.2 ≤ 140737488351232))) → (((Lit.int .i64 x2.1).wf = true) ∧ ((x2.2.1.length * 16 ≤ 140737488351232 ∧ x2.2.1.length ≤ maxLen ∧ ∀ y ∈ x2.2.1, ByteArray.size y ≤ 140737488351232) ∧ (x2.2.2.length * 16 ≤ 140737488351232 ∧ x2.2.2.length ≤ maxLen ∧ ∀ y ∈ x2.2.2, ByteArray.size y ≤ 140737488351232))) → (x3.length * 16 ≤ 140737488351232 ∧ x3.length ≤ maxLen ∧ ∀ y ∈ x3, ByteArray.size y ≤ 140737488351232) → l_FnExactAdvance x0.1 x0.2.1 x0.2.2.1 x0.2.2.2.1 x0.2.2.2.2 x1.1 x1.2.1 x1.2.2 x2.1 x2.2.1 x2.2.2 x3 = some true := by
  intro x0 x1 x2 x3 ⟨a1, _, a2, a3, a4⟩ ⟨b1, b2, b3⟩ ⟨c1, ⟨c2, c3, c4⟩, c5, c6, c7⟩ ⟨a7, a8, a9⟩
  obtain ⟨K, H, S, L, M⟩ := x0
  obtain ⟨S', L', M'⟩ := x1
  obtain ⟨idx, ps, path⟩ := x2
  dsimp only at a1 a2 a3 a4 b1 b2 b3 c1 c2 c3 c4 c5 c6 c7 ⊢
  unfold l_FnExactAdvance l_FnExactAdvance.F
  obtain ⟨r, hr, hr1⟩ := szTrust_eq K H S L M a1 a3 a4
  rw [hr, bs]
  by_cases hn : r < 0
  · rw [decide_t hn, ct]
  · rw [decide_f hn, cf]
    obtain ⟨r1, d1, d2⟩ := szStatement_eq S' L' M' r b2 b3 (by omega) (by omega)
    rw [d1, bs]
    by_cases hn1 : r1 < 0
    · rw [decide_t hn1, ct]
    · rw [decide_f hn1, cf]
      obtain ⟨r2, e1, e2, e3⟩ := szSignature_eq idx ps path r1 (by omega) (by omega) (by omega) c4 (by omega) c7
      rw [e1, bs]
      by_cases hn2 : r2 < 0
      · rw [decide_t hn2, ct]
      · rw [decide_f hn2, cf]
        obtain ⟨hp, hq⟩ := e3 hn2
        obtain ⟨r3, h1, h2, h3⟩ := szStringS_eq x3 r2 (by omega) (by omega) (by omega) a9
        rw [h1, bs]
        by_cases hn3 : r3 < 0
        · rw [decide_t hn3, ct]
        · rw [decide_f hn3, cf]
          have hlen : List.length (α := ByteArray) x3 ≤ 1048576 := (h3 hn3).len
          have ht : l_toTrust K H S L M = some (K, H, S, L, M) := rfl
          have hs' : l_toStatement S' L' M' = some (S', L', M') := rfl
          obtain ⟨⟨k, h, s, l, m, c⟩, hi, hs⟩ := advance_eq K H S L M S' L' M' idx ps path x3 (by omega) (by omega) (by omega)
          simp only [ht, hs', toSignature_eq idx ps path hp hq, toStringS_eq x3 hlen, bs, hi, hs, eqTrust_self, bne_self_eq_false, cf, eqSignature_self idx ps path hp hq, eqStringS_self x3 hlen, Bool.not_true]
end Go.Proofs.YtdpjbeeokimnaaaGreatDoorA
