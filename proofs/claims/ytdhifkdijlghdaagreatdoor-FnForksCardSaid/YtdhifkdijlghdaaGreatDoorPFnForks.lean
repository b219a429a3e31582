import Derived.Test.YtdhifkdijlghdaaGreatDoorAWord
import Derived.Laws.BytesArg
import Derived.Lib.Strings
import Derived.Test.YtdhifkdijlghdaaGreatDoorXkF2
import Derived.Lib.ItoaNum
import Derived.Lib.Split
import Derived.Lib.SplitLaws
import Derived.Lib.IndexBytes
import Derived.Lib.CountLaws
import Derived.Lib.SlTrimSet
namespace Go.Proofs.YtdhifkdijlghdaaGreatDoorA
open Go
set_option linter.unusedVariables false
set_option linter.unusedSimpArgs false
theorem bs {A B : Type} (a : A) (f : A → Option B) : Option.bind (some a) f = f a := id rfl
theorem ct {A : Type} (a b : A) : cond true a b = a := id rfl
theorem cf {A : Type} (a b : A) : cond false a b = b := id rfl
theorem grd_t {R : Type} (x : Option R) : grd true x = x := rfl
theorem grd_of {R : Type} {g : Bool} (h : g = true) (x : Option R) : grd g x = x := by rw [h]; rfl
theorem gIx_t {i : Int} {n : Nat} (h : 0 ≤ i) (h' : i < n) : gIx i n = true := by simp [gIx, h, h']
theorem gSl_t {l h : Int} {n : Nat} (h0 : 0 ≤ l) (h1 : l ≤ h) (h2 : h ≤ n) : gSl l h n = true := by simp [gSl, h0, h1, h2]
theorem gRm_t {n : Nat} (h : n ≤ 140737488355328) : gRm n = true := by simp [gRm, h]
theorem gCat_t {x y : ByteArray} (h : x.size + y.size ≤ 9223372036854775807) : gCat x y = true := by
 unfold gCat
 rw [decide_eq_true_iff]
 omega
theorem gSh_t {y : Int} (h : 0 ≤ y) : gSh y = true := by simp [gSh, h]
theorem gNz_t {y : Int} (h : y ≠ 0) : gNz y = true := by simp [gNz, h]
theorem gMk_t {l c : Int} {b : Nat} (h0 : 0 ≤ l) (h1 : l ≤ c) (h2 : c * b ≤ 140737488355328) : gMk l c b = true := by simp [gMk, h0, h1, h2]
theorem wr {x : Int} (h : -9223372036854775808 ≤ x) (h' : x ≤ 9223372036854775807) : IntKind.wrap .i64 x = x := by
 simp only [IntKind.wrap, IntKind.signed, IntKind.bits]
 simp
 omega
theorem wr8 {x : Int} (h : 0 ≤ x) (h' : x < 256) : IntKind.wrap .u8 x = x := by
 simp only [IntKind.wrap, IntKind.signed, IntKind.bits]
 simp
 omega
theorem wr8m (x : Int) : IntKind.wrap .u8 x = x % 256 := by
 simp only [IntKind.wrap, IntKind.signed, IntKind.bits]
 simp
theorem wr32m (x : Int) : IntKind.wrap .u32 x = x % 4294967296 := by
 simp only [IntKind.wrap, IntKind.signed, IntKind.bits]
 simp
theorem shl_eq {x : Int} {n : Int} (h0 : 0 ≤ n) (h1 : n ≤ 64) : iShl .i64 x n = IntKind.wrap .i64 (x * 2 ^ n.toNat) := by
 unfold iShl
 congr 3
 simp [IntKind.bits]
 omega
theorem shr_eq {x : Int} {n : Int} (h0 : 0 ≤ n) (h1 : n ≤ 64) : iShr .i64 x n = x / 2 ^ n.toNat := by
 unfold iShr
 rw [show min n.toNat (IntKind.bits .i64) = n.toNat by simp [IntKind.bits]; omega]
 rw [Int.fdiv_eq_ediv_of_nonneg]
 exact Int.pow_nonneg (by decide)
theorem shr8 (x : Int) : iShr .i64 x 8 = x / 256 := by rw [shr_eq (by decide) (by decide)]; rfl
theorem tmod_pos {x y : Int} (h : 0 ≤ x) : Int.tmod x y = x % y := Int.tmod_eq_emod_of_nonneg h
theorem tdiv_pos {x y : Int} (h : 0 ≤ x) : Int.tdiv x y = x / y := Int.tdiv_eq_ediv_of_nonneg h
def IsBytes (l : List Int) : Prop := ∀ y ∈ l, 0 ≤ y ∧ y < 256
theorem IsBytes.nil : IsBytes [] := fun y h => by simp at h
theorem IsBytes.cons {a : Int} {l : List Int} (h0 : 0 ≤ a) (h1 : a < 256) (h : IsBytes l) : IsBytes (a :: l) := fun y hy => by
 rcases List.mem_cons.1 hy with rfl | hy
 ·exact ⟨h0, h1⟩
 ·exact h y hy
theorem IsBytes.append {l m : List Int} (h : IsBytes l) (h' : IsBytes m) : IsBytes (l ++ m) := fun y hy => (List.mem_append.1 hy).elim (h y) (h' y)
theorem IsBytes.left {l m : List Int} (h : IsBytes (l ++ m)) : IsBytes l := fun y hy => h y (List.mem_append.2 (.inl hy))
theorem IsBytes.drop {l : List Int} (h : IsBytes l) (n : Nat) : IsBytes (l.drop n) := fun y hy => h y (List.mem_of_mem_drop hy)
theorem IsBytes.take {l : List Int} (h : IsBytes l) (n : Nat) : IsBytes (l.take n) := fun y hy => h y (List.mem_of_mem_take hy)
theorem IsBytes.sub {l : List Int} (h : IsBytes l) (a b : Int) : IsBytes (sub l a b) := (h.take _).drop _
theorem IsBytes.get {l : List Int} (h : IsBytes l) {i : Nat} (hi : i < l.length) : 0 ≤ l[i] ∧ l[i] < 256 := h _ (List.getElem_mem _)
theorem IsBytes.bytesL (s : ByteArray) : IsBytes (bytesL s) := fun y hy => by
 obtain ⟨b, _, rfl⟩ := List.mem_map.1 hy
 have := b.toNat_lt
 omega
theorem isBytes_of_wf {l : List Int} (h : ∀ y ∈ l, (Lit.int .u8 y).wf = true) : IsBytes l := fun y hy => by
 have := h y hy
 simp [Lit.wf, IntKind.min, IntKind.max, IntKind.signed, IntKind.bits] at this
 omega
theorem ba_ext {a b : ByteArray} (h : a.data.toList = b.data.toList) : a = b := by
 obtain ⟨⟨l⟩⟩ := a
 obtain ⟨⟨m⟩⟩ := b
 simp at h
 subst h
 rfl
theorem strL_size (l : List Int) : (strL l).size = l.length := by
 show (List.toArray _).size = _
 simp
theorem bytesL_length (s : ByteArray) : (bytesL s).length = s.size := by simp [bytesL]
theorem strL_list (l : List Int) : (strL l).data.toList = l.map fun n => UInt8.ofNat n.toNat := by simp [strL]
theorem strL_bytesL (s : ByteArray) : strL (bytesL s) = s := by
 apply ba_ext
 rw [strL_list, bytesL, List.map_map]
 conv => rhs; rw [← List.map_id s.data.toList]
 apply List.map_congr_left
 intro b _
 simp
theorem bytesL_strL {l : List Int} (h : IsBytes l) : bytesL (strL l) = l := by
 unfold bytesL
 rw [strL_list, List.map_map]
 conv => rhs; rw [← List.map_id l]
 apply List.map_congr_left
 intro b hb
 have := h b hb
 simp
 omega
theorem strL_append (l m : List Int) : strL l ++ strL m = strL (l ++ m) := by
 apply ba_ext
 rw [ByteArray.data_append, Array.toList_append, strL_list, strL_list, strL_list, List.map_append]
theorem cut_strL (l : List Int) (a b : Int) : cut (strL l) a b = strL (sub l a b) := by
 apply ba_ext
 unfold cut sub
 rw [Lib.extract_data, strL_list, strL_list, ← List.map_drop, ← List.map_take, List.drop_take]
theorem byteAt_strL {l : List Int} (h : IsBytes l) {i : Int} (h0 : 0 ≤ i) (h1 : i < l.length) : byteAt (strL l) i = l.getD i.toNat 0 := by
 have hi : i.toNat < l.length := by omega
 have hs : i.toNat < (strL l).size := by rw [strL_size]; exact hi
 unfold byteAt
 rw [dif_pos hs]
 have e : (strL l)[i.toNat]'hs = UInt8.ofNat (l[i.toNat]).toNat := by
  show (strL l).data[i.toNat]'_ = _
  simp [strL]
 rw [e, List.getD_eq_getElem?_getD, List.getElem?_eq_getElem hi]
 have := h l[i.toNat] (List.getElem_mem _)
 simp
 omega
theorem sEq_iff {a b : ByteArray} : sEq a b = true ↔ a = b := by
 unfold sEq
 rw [beq_iff_eq]
 constructor
 ·intro h
  apply ba_ext
  rwa [ByteArray.toList_eq, ByteArray.toList_eq] at h
 ·rintro rfl; rfl
theorem sEq_self (a : ByteArray) : sEq a a = true := sEq_iff.2 rfl
theorem sub_take {α : Type} (l : List α) (n : Int) : sub l 0 n = l.take n.toNat := by simp [sub]
theorem sub_drop {α : Type} (l : List α) (n : Int) {m : Int} (h : m = l.length) : sub l n m = l.drop n.toNat := by subst h; simp [sub]
theorem sub_length {α : Type} (l : List α) {a b : Int} (h0 : 0 ≤ a) (h1 : a ≤ b) (h2 : b ≤ l.length) : ((sub l a b).length : Int) = b - a := by
 simp [sub]
 omega
theorem rdE_at {k : Kd} {l : List (El k)} {i : Nat} (h : i < l.length) : rdE k l i = l[i] := by
 unfold rdE
 rw [List.getD_eq_getElem?_getD, List.getElem?_eq_getElem h]
 rfl
theorem take_snoc {α : Type} {l : List α} {i : Nat} (h : i < l.length) : l.take (i + 1) = l.take i ++ [l[i]] := by
 rw [List.take_add_one, List.getElem?_eq_getElem h]
 rfl
theorem drop_cons {α : Type} {l : List α} {i : Nat} (h : i < l.length) : l.drop i = l[i] :: l.drop (i + 1) := List.drop_eq_getElem_cons h
theorem decide_t {p : Prop} [Decidable p] (h : p) : decide p = true := decide_eq_true h
theorem decide_f {p : Prop} [Decidable p] (h : ¬ p) : decide p = false := decide_eq_false h
end Go.Proofs.YtdhifkdijlghdaaGreatDoorA
namespace Go.Proofs.YtdhifkdijlghdaaGreatDoorA
open Go
set_option linter.unusedVariables false
set_option linter.unusedSimpArgs false
theorem fuel_gt {n : Nat} (h : n < 18446744073709551616) : ∃ m, fuel = n + m + 1 := ⟨fuel - n - 1, by rw [fuel_eq]; omega⟩
def beL (n : Int) : Nat → List Int
 | 0 => []
 | m + 1 => beL (n / 256) m ++ [n % 256]
theorem beL_length (n : Int) (m : Nat) : (beL n m).length = m := by
 induction m generalizing n with
 | zero => rfl
 | succ m ih => simp [beL, ih]
theorem beL_bytes (n : Int) (m : Nat) : IsBytes (beL n m) := by
 induction m generalizing n with
 | zero => exact IsBytes.nil
 | succ m ih => exact (ih _).append (IsBytes.cons (by omega) (by omega) IsBytes.nil)
theorem number_l1 {R : Type} (kk : List Int → Option R) : ∀ (j n : Nat) (x : Int) (out : List Int), j ≤ out.length → j < 1000 → j < n → gq208.l1 kk n x ((j : Int) - 1) out = kk (beL x j ++ out.drop j)
 | 0, n + 1, x, out, _, _, _ => by
  simp only [gq208.l1, decide_f (show ¬ ((0 : Nat) : Int) - 1 ≥ 0 by omega), cond_false]
  simp [beL]
 | j + 1, n + 1, x, out, h1, h2, h3 => by
  have e : (((j + 1 : Nat) : Int) - 1) = j := by omega
  rw [e]
  simp only [gq208.l1]
  rw [decide_t (by omega : (j : Int) ≥ 0), cond_true, grd_of (gIx_t (by omega) (by omega)), grd_of (gSh_t (by omega)), wr (by omega) (by omega), shr8, wr8m]
  rw [number_l1 kk j n (x / 256) _ (by simp [setE]; omega) (by omega) (by omega)]
  congr 1
  have hj : j < out.length := by omega
  simp only [setE, Int.toNat_natCast, beL, List.append_assoc]
  congr 1
  rw [List.drop_set_of_lt_drop hj]
where
 List.drop_set_of_lt_drop {out : List Int} {j : Nat} {a : Int} (hj : j < out.length) : (out.set j a).drop j = [a] ++ out.drop (j + 1) := by
  rw [List.drop_eq_getElem_cons (by simpa using hj), List.getElem_set_self, List.drop_set_of_lt (by omega)]
  rfl
theorem number_eq (x : Int) (m : Nat) (h : m < 1000) : gq208 x m = some (strL (beL x m)) := by
 obtain ⟨q, hq⟩ := fuel_gt (n := m) (by omega)
 have hl : (List.replicate (Int.toNat (m : Int)) (0 : Int)).length = m := by simp
 unfold gq208 gq208.F
 rw [grd_of (gMk_t (by omega) (by omega) (by omega)), wr (by omega) (by omega), number_l1 _ m fuel x _ (by omega) h (by omega)]
 congr 2
 rw [List.drop_of_length_le (by omega), List.append_nil]
theorem within_eq (n lo hi : Int) : gq92 n lo hi = some (decide (lo ≤ n) && decide (n ≤ hi)) := by
 unfold gq92 gq92.F
 by_cases h : n ≥ lo
 ·simp [h]
 ·simp [h]
theorem l01In_eq (n lo hi : Int) : gq144 n lo hi = some (decide (lo ≤ n) && decide (n ≤ hi)) := by
 unfold gq144 gq144.F
 by_cases h : n ≥ lo
 ·simp [h]
 ·simp [h]
end Go.Proofs.YtdhifkdijlghdaaGreatDoorA
namespace Go.Proofs.YtdhifkdijlghdaaGreatDoorA
open Go
set_option linter.unusedVariables false
set_option linter.unusedSimpArgs false
theorem bits32 (f : BitVec 32 → BitVec 32 → BitVec 32) (x y : Int) : bits .u32 f x y = ((f (BitVec.ofInt 32 x) (BitVec.ofInt 32 y)).toNat : Int) := by
 show IntKind.wrap .u32 ((f (BitVec.ofInt 32 x) (BitVec.ofInt 32 y)).toNat : Int) = _
 rw [wr32m]
 have := (f (BitVec.ofInt 32 x) (BitVec.ofInt 32 y)).isLt
 omega
theorem w32 (b : BitVec 32) : BitVec.ofInt 32 (b.toNat : Int) = b := by
 rw [BitVec.ofInt_natCast, BitVec.ofNat_toNat, BitVec.setWidth_eq]
theorem and32 (x y : Int) : iAnd .u32 x y = ((BitVec.ofInt 32 x &&& BitVec.ofInt 32 y).toNat : Int) := bits32 _ x y
theorem or32 (x y : Int) : iOr .u32 x y = ((BitVec.ofInt 32 x ||| BitVec.ofInt 32 y).toNat : Int) := bits32 _ x y
theorem xor32 (x y : Int) : iXor .u32 x y = ((BitVec.ofInt 32 x ^^^ BitVec.ofInt 32 y).toNat : Int) := bits32 _ x y
theorem or32_comm (x y : Int) : iOr .u32 x y = iOr .u32 y x := by rw [or32, or32, BitVec.or_comm]
theorem max32 : BitVec.ofInt 32 (IntKind.max .u32) = BitVec.allOnes 32 := by decide
theorem ch32 (e f g : Int) : iXor .u32 (iAnd .u32 e f) (iAnd .u32 (iXor .u32 (IntKind.max .u32) e) g) = iOr .u32 (iAnd .u32 e f) (iAnd .u32 (iXor .u32 (IntKind.max .u32) e) g) := by
 simp only [and32, or32, xor32, w32, max32]
 congr 2
 ext i hi
 simp only [BitVec.getElem_xor, BitVec.getElem_and, BitVec.getElem_or, BitVec.getElem_allOnes]
 cases (BitVec.ofInt 32 e)[i] <;> cases (BitVec.ofInt 32 f)[i] <;> cases (BitVec.ofInt 32 g)[i] <;> rfl
theorem maj32 (a b c : Int) : iXor .u32 (iXor .u32 (iAnd .u32 a b) (iAnd .u32 a c)) (iAnd .u32 b c) = iOr .u32 (iOr .u32 (iAnd .u32 a b) (iAnd .u32 a c)) (iAnd .u32 b c) := by
 simp only [and32, or32, xor32, w32]
 congr 2
 ext i hi
 simp only [BitVec.getElem_xor, BitVec.getElem_and, BitVec.getElem_or]
 cases (BitVec.ofInt 32 a)[i] <;> cases (BitVec.ofInt 32 b)[i] <;> cases (BitVec.ofInt 32 c)[i] <;> rfl
def rot (x b : Int) : Int := iOr .u32 (iShr .u32 x b) (iShl .u32 x (32 - b))
def Turns : List Int := [7, 18, 17, 19, 6, 11, 25, 2, 13, 22]
theorem rot_s (x b : Int) (h : b ∈ Turns) : gq242 x b = some (rot x b) := by
 have h0 : 0 ≤ b ∧ b ≤ 32 := by
  simp only [Turns, List.mem_cons, List.mem_nil_iff, or_false] at h
  omega
 unfold gq242 gq242.F
 have e : IntKind.wrap .u64 (32 - b) = 32 - b := by
  simp only [IntKind.wrap, IntKind.signed, IntKind.bits]
  simp
  omega
 rw [e, grd_of (gSh_t h0.1), grd_of (gSh_t (by omega))]
 rfl
theorem rot_i (x b : Int) (h : b ∈ Turns) : gq277 x b = some (rot x b) := by
 unfold gq277 gq277.F gq335 gq335.F
 have e : iAnd .u64 (IntKind.wrap .u64 (IntKind.wrap .i64 (0 - b))) 31 = 32 - b ∧ IntKind.wrap .u64 (32 - (32 - b)) = b ∧ 0 ≤ b ∧ b ≤ 32 := by
  simp only [Turns, List.mem_cons, List.mem_nil_iff, or_false] at h
  rcases h with rfl | rfl | rfl | rfl | rfl | rfl | rfl | rfl | rfl | rfl <;> exact ⟨by decide, by decide, by decide, by decide⟩
 rw [e.1, e.2.1, grd_of (gSh_t (by omega)), grd_of (gSh_t e.2.2.1), bs, or32_comm]
 rfl
def itF {S : Type} (step : Nat → S → S) : Nat → Nat → S → S
 | _, 0, s => s
 | i, m + 1, s => itF step (i + 1) m (step i s)
theorem it_loop {R S : Type} {L : Nat → Int → S → Option R} {N : Nat} {step : Nat → S → S} {fin : S → Option R} (Inv : S → Prop)
  (hs : ∀ n i s, i < N → Inv s → L (n + 1) (i : Int) s = L n ((i + 1 : Nat) : Int) (step i s) ∧ Inv (step i s)) (h0 : ∀ n s, Inv s → L (n + 1) (N : Int) s = fin s) :
  ∀ (m n i : Nat) (s : S), i + m = N → m < n → Inv s → L n i s = fin (itF step i m s) ∧ Inv (itF step i m s)
 | 0, n + 1, i, s, e, _, hi => by
  have : i = N := by omega
  subst this
  exact ⟨h0 n s hi, hi⟩
 | m + 1, n + 1, i, s, e, hn, hi => by
  obtain ⟨h1, h2⟩ := hs n i s (by omega) hi
  rw [h1]
  exact it_loop Inv hs h0 m n (i + 1) _ (by omega) (by omega) h2
theorem itF_congr {S : Type} {step step' : Nat → S → S} (Inv : S → Prop) : ∀ (m i : Nat) (s : S), (∀ j s, i ≤ j → j < i + m → Inv s → step j s = step' j s ∧ Inv (step j s)) → Inv s → itF step i m s = itF step' i m s ∧ Inv (itF step i m s)
 | 0, i, s, h, hi => ⟨rfl, hi⟩
 | m + 1, i, s, h, hi => by
  obtain ⟨h1, h2⟩ := h i s (Nat.le_refl _) (by omega) hi
  have := itF_congr Inv m (i + 1) (step i s) (fun j s hj hj' hs => h j s (by omega) (by omega) hs) h2
  refine ⟨?_, this.2⟩
  show itF step (i + 1) m (step i s) = itF step' (i + 1) m (step' i s)
  rw [this.1, h1]
theorem itF_add {S : Type} (step : Nat → S → S) : ∀ (m k i : Nat) (s : S), itF step i (m + k) s = itF step (i + m) k (itF step i m s)
 | 0, k, i, s => by rw [Nat.zero_add]; rfl
 | m + 1, k, i, s => by
  rw [show m + 1 + k = (m + k) + 1 by omega, show i + (m + 1) = (i + 1) + m by omega]
  exact itF_add step m k (i + 1) (step i s)
abbrev k32 : Kd := .int .u32
def wB (b : List Int) (i : Nat) : Int :=
 iOr .u32 (iOr .u32 (iOr .u32 (iShl .u32 (IntKind.wrap .u32 (b.getD (4 * i) 0)) 24) (iShl .u32 (IntKind.wrap .u32 (b.getD (4 * i + 1) 0)) 16)) (iShl .u32 (IntKind.wrap .u32 (b.getD (4 * i + 2) 0)) 8)) (IntKind.wrap .u32 (b.getD (4 * i + 3) 0))
def wX (w : List Int) (i : Nat) : Int :=
 IntKind.wrap .u32 ((IntKind.wrap .u32 ((IntKind.wrap .u32 ((rdE k32 w (i - 16)) + (iXor .u32 (iXor .u32 (rot (rdE k32 w (i - 15)) 7) (rot (rdE k32 w (i - 15)) 18)) (iShr .u32 (rdE k32 w (i - 15)) 3)))) + (rdE k32 w (i - 7)))) + (iXor .u32 (iXor .u32 (rot (rdE k32 w (i - 2)) 17) (rot (rdE k32 w (i - 2)) 19)) (iShr .u32 (rdE k32 w (i - 2)) 10)))
def stA (b : List Int) (i : Nat) (w : List Int) : List Int := setE k32 w i (wB b i)
def stX (i : Nat) (w : List Int) : List Int := setE k32 w i (wX w i)
def stW (b : List Int) (i : Nat) (w : List Int) : List Int := if i < 16 then stA b i w else stX i w
def wsOf (b : List Int) : List Int := itF stX 16 48 (itF (stA b) 0 16 (List.replicate 64 0))
theorem stA_len {b : List Int} {i : Nat} {w : List Int} (h : w.length = 64) : (stA b i w).length = 64 := by simp [stA, setE, h]
theorem stX_len {i : Nat} {w : List Int} (h : w.length = 64) : (stX i w).length = 64 := by simp [stX, setE, h]
theorem wsOf_eq (b : List Int) : itF (stW b) 0 64 (List.replicate 64 0) = wsOf b ∧ (wsOf b).length = 64 := by
 have h1 := itF_congr (step := stW b) (step' := stA b) (fun w => w.length = 64) 16 0 (List.replicate 64 0) (fun j s _ hj hs => by
  rw [stW, if_pos (by omega)]
  exact ⟨rfl, stA_len hs⟩) (by simp)
 have h2 := itF_congr (step := stW b) (step' := stX) (fun w => w.length = 64) 48 16 _ (fun j s hj _ hs => by
  rw [stW, if_neg (by omega)]
  exact ⟨rfl, stX_len hs⟩) h1.2
 have h3 := itF_add (stW b) 16 48 0 (List.replicate 64 0)
 rw [show 64 = 16 + 48 from rfl, h3]
 rw [show (0 : Nat) + 16 = 16 from rfl]
 rw [h2.1, h1.1] at *
 exact ⟨rfl, h2.2⟩
theorem t7 : (7 : Int) ∈ Turns := by decide
theorem t18 : (18 : Int) ∈ Turns := by decide
theorem t17 : (17 : Int) ∈ Turns := by decide
theorem t19 : (19 : Int) ∈ Turns := by decide
theorem t6 : (6 : Int) ∈ Turns := by decide
theorem t11 : (11 : Int) ∈ Turns := by decide
theorem t25 : (25 : Int) ∈ Turns := by decide
theorem t2 : (2 : Int) ∈ Turns := by decide
theorem t13 : (13 : Int) ∈ Turns := by decide
theorem t22 : (22 : Int) ∈ Turns := by decide
theorem gSh_l {x : Int} (h : 0 ≤ x) {R : Type} (r : Option R) : grd (gSh x) r = r := grd_of (gSh_t h) r
theorem wordsOf_eq (b : List Int) (hb : IsBytes b) (hl : b.length = 64) : gq276 (strL b) = some (wsOf b) := by
 unfold gq276 gq276.F
 have key := it_loop (L := fun n i w => gq276.l1 (fun l w => some w) n (strL b) i (List.replicate 64 (0 : Int)) w) (N := 64) (step := stW b) (fin := fun w => some w) (fun w => w.length = 64) ?_ ?_ 64 fuel 0 (List.replicate 64 0) (by omega) (by rw [fuel_eq]; omega) (by simp)
 ·rw [wsOf_eq b |>.1] at key
  exact key.1
 ·intro n i w hi hw
  have hsz : (strL b).size = 64 := by rw [strL_size, hl]
  simp only [gq276.l1]
  rw [decide_t (by omega), ct]
  by_cases h16 : i < 16
  ·have e4 : IntKind.wrap .i64 (4 * (i : Int)) = ((4 * i : Nat) : Int) := by rw [wr (by omega) (by omega)]; omega
   have e5 : IntKind.wrap .i64 (((4 * i : Nat) : Int) + 1) = ((4 * i + 1 : Nat) : Int) := by rw [wr (by omega) (by omega)]; omega
   have e6 : IntKind.wrap .i64 (((4 * i : Nat) : Int) + 2) = ((4 * i + 2 : Nat) : Int) := by rw [wr (by omega) (by omega)]; omega
   have e7 : IntKind.wrap .i64 (((4 * i : Nat) : Int) + 3) = ((4 * i + 3 : Nat) : Int) := by rw [wr (by omega) (by omega)]; omega
   rw [decide_t (by omega), ct, e4, e5, e6, e7, hsz, grd_of (gIx_t (by omega) (by omega)), gSh_l (by decide), grd_of (gIx_t (by omega) (by omega)), gSh_l (by decide), grd_of (gIx_t (by omega) (by omega)), gSh_l (by decide), grd_of (gIx_t (by omega) (by omega)), grd_of (gIx_t (by omega) (by omega))]
   rw [byteAt_strL hb (by omega) (by omega), byteAt_strL hb (by omega) (by omega), byteAt_strL hb (by omega) (by omega), byteAt_strL hb (by omega) (by omega), wr (x := (i : Int) + 1) (by omega) (by omega), show ((i : Int) + 1) = ((i + 1 : Nat) : Int) by omega]
   simp only [Int.toNat_natCast]
   rw [stW, if_pos h16]
   exact ⟨rfl, stA_len hw⟩
  ·rw [decide_f (by omega), cf, wr (x := (i : Int) - 15) (by omega) (by omega), wr (x := (i : Int) - 2) (by omega) (by omega), wr (x := (i : Int) - 16) (by omega) (by omega), wr (x := (i : Int) - 7) (by omega) (by omega)]
   rw [show ((i : Int) - 15).toNat = i - 15 by omega, show ((i : Int) - 2).toNat = i - 2 by omega, show ((i : Int) - 16).toNat = i - 16 by omega, show ((i : Int) - 7).toNat = i - 7 by omega]
   rw [grd_of (gIx_t (by omega) (by omega)), grd_of (gIx_t (by omega) (by omega)), rot_i _ _ t7, bs, rot_i _ _ t18, bs, gSh_l (by decide), rot_i _ _ t17, bs, rot_i _ _ t19, bs, gSh_l (by decide), grd_of (gIx_t (by omega) (by omega)), grd_of (gIx_t (by omega) (by omega)), grd_of (gIx_t (by omega) (by omega)), wr (x := (i : Int) + 1) (by omega) (by omega), show ((i : Int) + 1) = ((i + 1 : Nat) : Int) by omega, Int.toNat_natCast]
   rw [stW, if_neg h16]
   exact ⟨rfl, stX_len hw⟩
 ·intro n w hw
  simp only [gq276.l1]
  rw [decide_f (by omega), cf]
end Go.Proofs.YtdhifkdijlghdaaGreatDoorA
namespace Go.Proofs.YtdhifkdijlghdaaGreatDoorA
open Go
set_option linter.unusedVariables false
set_option linter.unusedSimpArgs false
def rP (v k w : List Int) (i : Nat) : Int :=
 IntKind.wrap .u32 ((IntKind.wrap .u32 ((IntKind.wrap .u32 ((IntKind.wrap .u32 ((rdE k32 v 7) + (iXor .u32 (iXor .u32 (rot (rdE k32 v 4) 6) (rot (rdE k32 v 4) 11)) (rot (rdE k32 v 4) 25)))) + (iOr .u32 (iAnd .u32 (rdE k32 v 4) (rdE k32 v 5)) (iAnd .u32 (iXor .u32 (IntKind.max .u32) (rdE k32 v 4)) (rdE k32 v 6))))) + (rdE k32 k i))) + (rdE k32 w i))
def rQ (v : List Int) : Int :=
 IntKind.wrap .u32 ((iXor .u32 (iXor .u32 (rot (rdE k32 v 0) 2) (rot (rdE k32 v 0) 13)) (rot (rdE k32 v 0) 22)) + (iOr .u32 (iOr .u32 (iAnd .u32 (rdE k32 v 0) (rdE k32 v 1)) (iAnd .u32 (rdE k32 v 0) (rdE k32 v 2))) (iAnd .u32 (rdE k32 v 1) (rdE k32 v 2))))
def stV (k w : List Int) (i : Nat) (v : List Int) : List Int :=
 [IntKind.wrap .u32 (rP v k w i + rQ v), rdE k32 v 0, rdE k32 v 1, rdE k32 v 2, IntKind.wrap .u32 (rdE k32 v 3 + rP v k w i), rdE k32 v 4, rdE k32 v 5, rdE k32 v 6]
def rounds (h k b : List Int) : List Int := itF (stV k (wsOf b)) 0 64 h
def addW (h v : List Int) : List Int :=
 [IntKind.wrap .u32 (rdE k32 h 0 + rdE k32 v 0), IntKind.wrap .u32 (rdE k32 h 1 + rdE k32 v 1), IntKind.wrap .u32 (rdE k32 h 2 + rdE k32 v 2), IntKind.wrap .u32 (rdE k32 h 3 + rdE k32 v 3), IntKind.wrap .u32 (rdE k32 h 4 + rdE k32 v 4), IntKind.wrap .u32 (rdE k32 h 5 + rdE k32 v 5), IntKind.wrap .u32 (rdE k32 h 6 + rdE k32 v 6), IntKind.wrap .u32 (rdE k32 h 7 + rdE k32 v 7)]
def blockF (h k b : List Int) : List Int := addW h (rounds h k b)
theorem eight {l : List Int} (h : l.length = 8) : ∃ a b c d e f g i, l = [a, b, c, d, e, f, g, i] := by
 match l, h with
 | [a, b, c, d, e, f, g, i], _ => exact ⟨_, _, _, _, _, _, _, _, rfl⟩
theorem fuel9 : ∃ q, fuel = q + 9 := ⟨fuel - 9, by rw [fuel_eq]⟩
theorem rounds_len {h k b : List Int} (hh : h.length = 8) : (rounds h k b).length = 8 := (itF_congr (step := stV k (wsOf b)) (step' := stV k (wsOf b)) (fun v => v.length = 8) 64 0 h (fun _ _ _ _ _ => ⟨rfl, rfl⟩) hh).2
theorem blockHash_eq (h k b : List Int) (hb : IsBytes b) (hh : h.length = 8) (hk : k.length = 64) (hl : b.length = 64) : gq211 h k (strL b) = some (blockF h k b) := by
 rw [gq211_eq]
 unfold gq211.F
 rw [wordsOf_eq b hb hl, bs]
 have hw := (wsOf_eq b).2
 have key := it_loop (L := fun n i v => gq211.l1 (fun words1 l v => gq211.l2 (fun l1 v1 => some v1) fuel (0 : Int) words1 l v) n i h k (List.replicate 8 (0 : Int)) v (wsOf b)) (N := 64) (step := stV k (wsOf b)) (fin := fun v => gq211.l2 (fun l1 v1 => some v1) fuel (0 : Int) h (List.replicate 8 (0 : Int)) v) (fun v => v.length = 8) ?_ ?_ 64 fuel 0 h (by omega) (by rw [fuel_eq]; omega) hh
 ·obtain ⟨h1, h2⟩ := key
  refine h1.trans ?_
  show gq211.l2 (fun l1 v1 => some v1) fuel (0 : Int) h (List.replicate 8 (0 : Int)) (rounds h k b) = some (addW h (rounds h k b))
  obtain ⟨a0, a1, a2, a3, a4, a5, a6, a7, hv⟩ := eight (rounds_len (k := k) (b := b) hh)
  obtain ⟨b0, b1, b2, b3, b4, b5, b6, b7, rfl⟩ := eight hh
  rw [hv]
  obtain ⟨q, hq⟩ := fuel9
  rw [hq]
  simp only [gq211.l2]
  have c : ∀ a b : Int, IntKind.wrap .u32 (a + b) = IntKind.wrap .u32 (b + a) := fun a b => by rw [Int.add_comm]
  show some [IntKind.wrap .u32 (a0 + b0), IntKind.wrap .u32 (a1 + b1), IntKind.wrap .u32 (a2 + b2), IntKind.wrap .u32 (a3 + b3), IntKind.wrap .u32 (a4 + b4), IntKind.wrap .u32 (a5 + b5), IntKind.wrap .u32 (a6 + b6), IntKind.wrap .u32 (a7 + b7)] = some [IntKind.wrap .u32 (b0 + a0), IntKind.wrap .u32 (b1 + a1), IntKind.wrap .u32 (b2 + a2), IntKind.wrap .u32 (b3 + a3), IntKind.wrap .u32 (b4 + a4), IntKind.wrap .u32 (b5 + a5), IntKind.wrap .u32 (b6 + a6), IntKind.wrap .u32 (b7 + a7)]
  rw [c a0, c a1, c a2, c a3, c a4, c a5, c a6, c a7]
 ·intro n i v hi hv
  simp only [gq211.l1]
  rw [decide_t (by omega), ct]
  rw [grd_of (gIx_t (by omega) (by omega)), grd_of (gIx_t (by omega) (by omega)), grd_of (gIx_t (by omega) (by omega)), grd_of (gIx_t (by omega) (by omega)), grd_of (gIx_t (by omega) (by omega)), grd_of (gIx_t (by omega) (by omega)), grd_of (gIx_t (by omega) (by omega))]
  rw [rot_i _ _ t6, bs, rot_i _ _ t11, bs, rot_i _ _ t25, bs, grd_of (gIx_t (by omega) (by omega)), grd_of (gIx_t (by omega) (by omega)), rot_i _ _ t2, bs, rot_i _ _ t13, bs, rot_i _ _ t22, bs, grd_of (gIx_t (by omega) (by omega)), wr (x := (i : Int) + 1) (by omega) (by omega), show ((i : Int) + 1) = ((i + 1 : Nat) : Int) by omega, Int.toNat_natCast]
  exact ⟨rfl, rfl⟩
 ·intro n v hv
  simp only [gq211.l1]
  rw [decide_f (by omega), cf]
theorem block_s (h b k : List Int) (hb : IsBytes b) (hh : h.length = 8) (hk : k.length = 64) (hl : b.length = 64) : gq177 h b k = some (blockF h k b) := by
 rw [gq177_eq]
 unfold gq177.F
 rw [grd_of (gMk_t (by decide) (by decide) (by decide))]
 have l1 := fun (kke : List Int → List Int → List Int → Option (List Int)) => it_loop (L := fun n i w => gq177.l1 kke n b k i h w) (N := 16) (step := stA b) (fin := fun w => kke k h w) (fun w => w.length = 64) (by
  intro n i w hi hw
  have hw' : List.length (α := El k32) w = 64 := hw
  have e4 : IntKind.wrap .i64 (4 * (i : Int)) = ((4 * i : Nat) : Int) := by rw [wr (by omega) (by omega)]; omega
  have e5 : IntKind.wrap .i64 (((4 * i : Nat) : Int) + 1) = ((4 * i + 1 : Nat) : Int) := by rw [wr (by omega) (by omega)]; omega
  have e6 : IntKind.wrap .i64 (((4 * i : Nat) : Int) + 2) = ((4 * i + 2 : Nat) : Int) := by rw [wr (by omega) (by omega)]; omega
  have e7 : IntKind.wrap .i64 (((4 * i : Nat) : Int) + 3) = ((4 * i + 3 : Nat) : Int) := by rw [wr (by omega) (by omega)]; omega
  simp only [gq177.l1]
  rw [decide_t (by omega), ct, e4, e5, e6, e7, grd_of (gIx_t (by omega) (by omega)), gSh_l (by decide), grd_of (gIx_t (by omega) (by omega)), gSh_l (by decide), grd_of (gIx_t (by omega) (by omega)), gSh_l (by decide), grd_of (gIx_t (by omega) (by omega)), grd_of (gIx_t (by omega) (by omega)), wr (x := (i : Int) + 1) (by omega) (by omega), show ((i : Int) + 1) = ((i + 1 : Nat) : Int) by omega]
  simp only [Int.toNat_natCast]
  exact ⟨rfl, stA_len hw⟩) (by
  intro n w hw
  simp only [gq177.l1]
  rw [decide_f (by omega), cf]) 16 fuel 0 (List.replicate 64 0) (by omega) (by rw [fuel_eq]; omega) (by simp)
 have l2 := fun (kke : List Int → List Int → List Int → Option (List Int)) (w0 : List Int) (h0 : w0.length = 64) => it_loop (L := fun n j w => gq177.l2 kke n k (j + 16) h w) (N := 48) (step := fun j w => stX (j + 16) w) (fin := fun w => kke k h w) (fun w => w.length = 64) (by
  intro n j w hj hw
  have hw' : List.length (α := El k32) w = 64 := hw
  obtain ⟨i, hi⟩ : ∃ i, i = j + 16 := ⟨_, rfl⟩
  rw [show ((j : Int) + 16) = (i : Int) by omega, show (((j + 1 : Nat) : Int) + 16) = ((i + 1 : Nat) : Int) by omega, ← hi]
  simp only [gq177.l2]
  rw [decide_t (by omega), ct, wr (x := (i : Int) - 15) (by omega) (by omega), wr (x := (i : Int) - 2) (by omega) (by omega), wr (x := (i : Int) - 16) (by omega) (by omega), wr (x := (i : Int) - 7) (by omega) (by omega)]
  rw [show ((i : Int) - 15).toNat = i - 15 by omega, show ((i : Int) - 2).toNat = i - 2 by omega, show ((i : Int) - 16).toNat = i - 16 by omega, show ((i : Int) - 7).toNat = i - 7 by omega]
  rw [grd_of (gIx_t (by omega) (by omega)), grd_of (gIx_t (by omega) (by omega)), grd_of (gIx_t (by omega) (by omega)), rot_s _ _ t7, bs, rot_s _ _ t18, bs, gSh_l (by decide), grd_of (gIx_t (by omega) (by omega)), rot_s _ _ t17, bs, rot_s _ _ t19, bs, gSh_l (by decide), grd_of (gIx_t (by omega) (by omega)), wr (x := (i : Int) + 1) (by omega) (by omega), show ((i : Int) + 1) = ((i + 1 : Nat) : Int) by omega, Int.toNat_natCast]
  exact ⟨rfl, stX_len hw⟩) (by
  intro n w hw
  simp only [gq177.l2]
  rw [decide_f (by omega), cf]) 48 fuel 0 w0 (by omega) (by rw [fuel_eq]; omega) h0
 have l3 := fun (kke : List Int → List Int → Option (List Int)) (w : List Int) (hw : w.length = 64) => it_loop (L := fun n i v => gq177.l3 kke n k i h w v) (N := 64) (step := stV k w) (fin := fun v => kke h v) (fun v => v.length = 8) (by
  intro n i v hi hv
  have hw' : List.length (α := El k32) w = 64 := hw
  have hv' : List.length (α := El k32) v = 8 := hv
  have hk' : List.length (α := El k32) k = 64 := hk
  simp only [gq177.l3]
  rw [decide_t (by omega), ct]
  rw [grd_of (gIx_t (by omega) (by omega)), grd_of (gIx_t (by omega) (by omega)), grd_of (gIx_t (by omega) (by omega)), rot_s _ _ t6, bs, rot_s _ _ t11, bs, rot_s _ _ t25, bs]
  rw [grd_of (gIx_t (by omega) (by omega)), grd_of (gIx_t (by omega) (by omega)), grd_of (gIx_t (by omega) (by omega)), grd_of (gIx_t (by omega) (by omega)), rot_s _ _ t2, bs, rot_s _ _ t13, bs, rot_s _ _ t22, bs]
  repeat rw [grd_of (gIx_t (by omega) (by omega))]
  rw [wr (x := (i : Int) + 1) (by omega) (by omega), show ((i : Int) + 1) = ((i + 1 : Nat) : Int) by omega, Int.toNat_natCast]
  simp only [ch32, maj32]
  exact ⟨rfl, rfl⟩) (by
  intro n v hv
  simp only [gq177.l3]
  rw [decide_f (by omega), cf]) 64 fuel 0 h (by omega) (by rw [fuel_eq]; omega) hh
 have sh := fun (m i : Nat) (w : List Int) => show itF (fun j w => stX (j + 16) w) i m w = itF stX (i + 16) m w by
  induction m generalizing i w with
  | zero => rfl
  | succ m ih =>
   show itF (fun j w => stX (j + 16) w) (i + 1) m (stX (i + 16) w) = itF stX (i + 16 + 1) m (stX (i + 16) w)
   rw [ih, show i + 1 + 16 = i + 16 + 1 by omega]
 have hlen := (wsOf_eq b).2
 refine (l1 _).1.trans ?_
 have e2 := (l2 (fun k_2 h2 w1 => grd (gRm (((List.length ([] : List Int)) + (List.length h2)) * 4)) <| gq177.l3 (fun h3 v => gq177.l4 (fun h4 => some h4) fuel (0 : Int) h3 v) fuel k_2 (0 : Int) h2 w1 (([] : List Int) ++ h2)) _ (l1 (fun _ _ w => some w)).2).1
 rw [sh] at e2
 refine e2.trans ?_
 show grd (gRm (((List.length ([] : List Int)) + (List.length h)) * 4)) (gq177.l3 (fun h3 v => gq177.l4 (fun h4 => some h4) fuel (0 : Int) h3 v) fuel k (0 : Int) h (wsOf b) (([] : List Int) ++ h)) = _
 rw [grd_of (gRm_t (by simp; omega)), List.nil_append]
 refine (l3 _ (wsOf b) hlen).1.trans ?_
 show gq177.l4 (fun h4 => some h4) fuel (0 : Int) h (rounds h k b) = some (addW h (rounds h k b))
 obtain ⟨a0, a1, a2, a3, a4, a5, a6, a7, hv⟩ := eight (rounds_len (k := k) (b := b) hh)
 obtain ⟨b0, b1, b2, b3, b4, b5, b6, b7, rfl⟩ := eight hh
 rw [hv]
 obtain ⟨q, hq⟩ := fuel9
 rw [hq]
 rfl
theorem blockF_len (h k b : List Int) : (blockF h k b).length = 8 := rfl
def IsWords (l : List Int) : Prop := ∀ x ∈ l, 0 ≤ x ∧ x < 4294967296
theorem blockF_words (h k b : List Int) : IsWords (blockF h k b) := by
 intro x hx
 have : ∃ y, x = IntKind.wrap .u32 y := by
  unfold blockF addW at hx
  simp only [List.mem_cons, List.mem_nil_iff, or_false] at hx
  rcases hx with rfl | rfl | rfl | rfl | rfl | rfl | rfl | rfl <;> exact ⟨_, rfl⟩
 obtain ⟨y, rfl⟩ := this
 rw [wr32m]
 omega
end Go.Proofs.YtdhifkdijlghdaaGreatDoorA
namespace Go.Proofs.YtdhifkdijlghdaaGreatDoorA
open Go
set_option linter.unusedVariables false
set_option linter.unusedSimpArgs false
end Go.Proofs.YtdhifkdijlghdaaGreatDoorA
namespace Go.Proofs.YtdhifkdijlghdaaGreatDoorA
open Go
set_option linter.unusedVariables false
set_option linter.unusedSimpArgs false
theorem find_loop {k : Kd} {R : Type} {L : Nat → List (El k) → Int → Int → Option R} {f : El k → Option (Bool × Unit)} {kke : Option R} {kkr : Int → Option R}
  (hL : ∀ n s i j, L (n + 1) s i j = cond (decide (j < i)) (grd (gIx j (List.length s)) ((f (rdE k s (Int.toNat j))).bind fun r => cond r.1 (kkr j) (L n s i (IntKind.wrap .i64 (j + 1))))) kke)
  {q : El k → Bool} {l : List (El k)} (hl : l.length ≤ 9223372036854775806) (hf : ∀ x ∈ l, f x = some (q x, ())) :
  ∀ (m n j : Nat), j + m = l.length → m < n → L n l l.length j = match (l.drop j).findIdx? q with | none => kke | some d => kkr ((j + d : Nat) : Int)
 | 0, n + 1, j, e, _ => by
  rw [hL, decide_f (by omega : ¬ (j : Int) < l.length), cond_false, List.drop_of_length_le (by omega)]
  rfl
 | m + 1, n + 1, j, e, h => by
  have hj : j < l.length := by omega
  rw [hL, decide_t (by omega : (j : Int) < l.length), cond_true, grd_of (gIx_t (by omega) (by omega)), Int.toNat_natCast, rdE_at hj, hf _ (List.getElem_mem hj), Option.bind_some, drop_cons hj, List.findIdx?_cons]
  cases hq : q l[j] with
  | true => simp
  | false =>
   simp only [cond_false, Bool.false_eq_true, if_false]
   rw [wr (by omega) (by omega), show ((j : Int) + 1) = ((j + 1 : Nat) : Int) by omega, find_loop hL hl hf m n (j + 1) (by omega) (by omega)]
   cases (l.drop (j + 1)).findIdx? q with
   | none => rfl
   | some d => simp only [Option.map_some]; congr 1; omega
theorem findIdx_any {α : Type} (l : List α) (q : α → Bool) : (l.findIdx? q).isSome = l.any q := by
 induction l with
 | nil => rfl
 | cons x l ih =>
  rw [List.findIdx?_cons, List.any_cons]
  cases q x with
  | true => simp
  | false => simp [ih]
end Go.Proofs.YtdhifkdijlghdaaGreatDoorA
namespace Go.Proofs.YtdhifkdijlghdaaGreatDoorA
open Go
set_option linter.unusedVariables false
set_option linter.unusedSimpArgs false
end Go.Proofs.YtdhifkdijlghdaaGreatDoorA
namespace Go.Proofs.YtdhifkdijlghdaaGreatDoorA
open Go
set_option linter.unusedVariables false
set_option linter.unusedSimpArgs false
theorem beL1 (n : Int) : beL n 1 = [n % 256] := rfl
theorem beL4 (n : Int) : beL n 4 = [n / 16777216 % 256, n / 65536 % 256, n / 256 % 256, n % 256] := by
 show [n / 256 / 256 / 256 % 256, n / 256 / 256 % 256, n / 256 % 256, n % 256] = _
 rw [show n / 256 / 256 / 256 = n / 16777216 by omega, show n / 256 / 256 = n / 65536 by omega]
theorem number1 (x : Int) : gq208 x 1 = some (strL (beL x 1)) := number_eq x 1 (by omega)
theorem number4 (x : Int) : gq208 x 4 = some (strL (beL x 4)) := number_eq x 4 (by omega)
theorem IsBytes.tail {a : Int} {l : List Int} (h : IsBytes (a :: l)) : IsBytes l := fun y hy => h y (List.mem_cons_of_mem _ hy)
end Go.Proofs.YtdhifkdijlghdaaGreatDoorA
namespace Go.Proofs.YtdhifkdijlghdaaGreatDoorA
open Go
set_option linter.unusedVariables false
set_option linter.unusedSimpArgs false
def kK : List Int := (gq176).getD []
theorem consts_eq : gq176 = some kK := rfl
theorem roundWords_eq : gq210 = some kK := by rw [gq210_eq]; rfl
def kH : List Int := [1779033703, 3144134277, 1013904242, 2773480762, 1359893119, 2600822924, 528734635, 1541459225]
theorem hashWords_eq : gq209 = some kH := by rw [gq209_eq]; rfl
theorem kK_len : kK.length = 64 := by decide
theorem kH_len : kH.length = 8 := by decide
theorem kH_words : IsWords kH := by
 intro x hx
 simp only [kH, List.mem_cons, List.mem_nil_iff, or_false] at hx
 omega
theorem it_loopI {R S : Type} {L : Nat → Int → S → Option R} {N : Nat} {step : Nat → S → S} {fin : S → Option R} (Inv : Nat → S → Prop)
  (hs : ∀ n i s, i < N → Inv i s → L (n + 1) (i : Int) s = L n ((i + 1 : Nat) : Int) (step i s) ∧ Inv (i + 1) (step i s)) (h0 : ∀ n s, Inv N s → L (n + 1) (N : Int) s = fin s) :
  ∀ (m n i : Nat) (s : S), i + m = N → m < n → Inv i s → L n i s = fin (itF step i m s) ∧ Inv N (itF step i m s)
 | 0, n + 1, i, s, e, _, hi => by
  have : i = N := by omega
  subst this
  exact ⟨h0 n s hi, hi⟩
 | m + 1, n + 1, i, s, e, hn, hi => by
  obtain ⟨h1, h2⟩ := hs n i s (by omega) hi
  rw [h1]
  exact it_loopI Inv hs h0 m n (i + 1) _ (by omega) (by omega) h2
def padZ (n : Nat) : Nat := (119 - n % 64) % 64
def padded (l : List Int) : List Int := ((l ++ [128]) ++ List.replicate (padZ l.length) 0) ++ beL (8 * (l.length : Int)) 8
theorem padded_len (l : List Int) : (padded l).length = 64 * ((l.length + 72) / 64) := by
 simp only [padded, List.length_append, List.length_singleton, List.length_replicate, beL_length, padZ]
 omega
theorem padded_bytes {l : List Int} (h : IsBytes l) : IsBytes (padded l) := by
 refine ((h.append (IsBytes.cons (by decide) (by decide) IsBytes.nil)).append fun y hy => ?_).append (beL_bytes _ _)
 rw [List.eq_of_mem_replicate hy]
 decide
def stH (all : List Int) (j : Nat) (h : List Int) : List Int := blockF h kK ((all.drop (64 * j)).take 64)
def stO (h : List Int) (i : Nat) (out : List Int) : List Int := out ++ beL (rdE k32 h i) 4
def shaO (h : List Int) : List Int := itF (stO h) 0 8 []
def sha (l : List Int) : List Int := shaO (itF (stH (padded l)) 0 ((l.length + 72) / 64) kH)
theorem shaO_eq (h : List Int) : shaO h = beL (rdE k32 h 0) 4 ++ beL (rdE k32 h 1) 4 ++ beL (rdE k32 h 2) 4 ++ beL (rdE k32 h 3) 4 ++ beL (rdE k32 h 4) 4 ++ beL (rdE k32 h 5) 4 ++ beL (rdE k32 h 6) 4 ++ beL (rdE k32 h 7) 4 := by
 simp only [shaO, itF, stO, List.nil_append]
theorem sha_len (l : List Int) : (sha l).length = 32 := by
 rw [sha, shaO_eq]
 simp only [List.length_append, beL_length]
theorem sha_bytes (l : List Int) : IsBytes (sha l) := by
 rw [sha, shaO_eq]
 exact (((((((beL_bytes _ _).append (beL_bytes _ _)).append (beL_bytes _ _)).append (beL_bytes _ _)).append (beL_bytes _ _)).append (beL_bytes _ _)).append (beL_bytes _ _)).append (beL_bytes _ _)
def HOk (h : List Int) : Prop := h.length = 8 ∧ IsWords h
theorem sub_block (all : List Int) (j : Nat) : sub all (64 * (j : Int)) (64 * (j : Int) + 64) = (all.drop (64 * j)).take 64 := by
 unfold sub
 rw [show (64 * (j : Int) + 64).toNat = 64 * j + 64 by omega, show (64 * (j : Int)).toNat = 64 * j by omega, List.drop_take, show 64 * j + 64 - 64 * j = 64 by omega]
theorem repeat_eq (z : Nat) (hz : z ≤ 100) : gq207 (⟨#[0]⟩ : ByteArray) (z : Int) = some (strL (List.replicate z 0)) := by
 rw [gq207_eq]
 unfold gq207.F
 rw [grd_of (by
  rw [gRep_eq]
  have : ByteArray.size (⟨#[0]⟩ : ByteArray) = 1 := rfl
  exact decide_eq_true ⟨by omega, by omega, by rw [this]; omega⟩), repS_eq, Int.toNat_natCast]
 congr 1
 apply ba_ext
 rw [strL_list]
 show (Lib.repeatL [(0 : UInt8)] z).toArray.toList = _
 rw [List.map_replicate]
 clear hz
 show Lib.repeatL [(0 : UInt8)] z = List.replicate z (UInt8.ofNat (0 : Int).toNat)
 induction z with
 | zero => rfl
 | succ z ih =>
  rw [List.replicate_succ, ← ih]
  rfl
theorem byte4 {x : Int} (h0 : 0 ≤ x) (h1 : x < 4294967296) : [IntKind.wrap .u8 (iShr .u32 x 24), IntKind.wrap .u8 (iShr .u32 x 16), IntKind.wrap .u8 (iShr .u32 x 8), IntKind.wrap .u8 x] = beL x 4 := by
 have e : ∀ n : Int, 0 ≤ n → n ≤ 32 → iShr .u32 x n = x / 2 ^ n.toNat := fun n hn hn' => by
  unfold iShr
  rw [show min n.toNat (IntKind.bits .u32) = n.toNat by simp [IntKind.bits]; omega]
  rw [Int.fdiv_eq_ediv_of_nonneg]
  exact Int.pow_nonneg (by decide)
 rw [e 24 (by decide) (by decide), e 16 (by decide) (by decide), e 8 (by decide) (by decide), beL4]
 simp only [wr8m]
 rfl
theorem hash_i (l : List Int) (hb : IsBytes l) (hl : l.length ≤ 1000000000000) : i_hash (strL l) = some (strL (sha l)) := by
 rw [i_hash_eq]
 unfold i_hash.F
 have h128 : (⟨#[128]⟩ : ByteArray) = strL [128] := rfl
 have ez : Int.tmod (IntKind.wrap .i64 ((119 : Int) - Int.tmod (l.length : Int) 64)) 64 = (padZ l.length : Nat) := by
  rw [tmod_pos (x := (l.length : Int)) (by omega), wr (by omega) (by omega), tmod_pos (by omega)]
  unfold padZ
  omega
 rw [h128, grd_of (gCat_t (by rw [strL_size, strL_size]; simp; omega)), grd_of (gNz_t (by decide)), grd_of (gNz_t (by decide)), strL_size, ez, repeat_eq _ (by unfold padZ; omega), bs, strL_append]
 rw [grd_of (gCat_t (by rw [strL_size, strL_size]; simp [padZ]; omega)), wr (by omega) (by omega)]
 have hn := number_eq (8 * (l.length : Int)) 8 (by decide)
 rw [show (((8 : Nat) : Int)) = 8 from rfl] at hn
 rw [hn, bs, strL_append, grd_of (gCat_t (by rw [strL_size, strL_size]; simp [padZ, beL_length]; omega)), strL_append, hashWords_eq, bs, roundWords_eq, bs]
 show i_hash.l1 (fun words => i_hash.l2 (fun out => some out) fuel ByteArray.empty words (0 : Int)) fuel (strL (padded l)) (0 : Int) kH kK = _
 have hpl := padded_len l
 have hpb := padded_bytes hb
 have key := it_loop (L := fun n j h => i_hash.l1 (fun words => i_hash.l2 (fun out => some out) fuel ByteArray.empty words (0 : Int)) n (strL (padded l)) (64 * j) h kK) (N := (l.length + 72) / 64) (step := stH (padded l)) (fin := fun h => i_hash.l2 (fun out => some out) fuel ByteArray.empty h (0 : Int)) HOk ?_ ?_ ((l.length + 72) / 64) fuel 0 kH (by omega) (by rw [fuel_eq]; omega) ⟨kH_len, kH_words⟩
 ·obtain ⟨h1, h2⟩ := key
  refine h1.trans ?_
  rw [sha]
  obtain ⟨hh, hhd⟩ : ∃ hh, hh = itF (stH (padded l)) 0 ((l.length + 72) / 64) kH := ⟨_, rfl⟩
  rw [← hhd] at h2 ⊢
  have k2 := it_loopI (L := fun n i out => i_hash.l2 (fun out => some out) n (strL out) hh i) (N := 8) (step := stO hh) (fin := fun out => some (strL out)) (fun i out => out.length = 4 * i) ?_ ?_ 8 fuel 0 [] (by omega) (by rw [fuel_eq]; omega) (by simp)
  ·exact k2.1
  ·intro n i out hi ho
   have hw := h2.2 _ (List.getElem_mem (show i < hh.length by rw [h2.1]; exact hi))
   simp only [i_hash.l2]
   rw [decide_t (by omega), ct, grd_of (gIx_t (by omega) (by omega)), Int.toNat_natCast, rdE_at (k := k32) (show i < hh.length by rw [h2.1]; exact hi), wr (by omega) (by omega), number4, bs, grd_of (gCat_t (by rw [strL_size, strL_size, beL_length]; omega)), strL_append, wr (by omega) (by omega), show ((i : Int) + 1) = ((i + 1 : Nat) : Int) by omega]
   refine ⟨?_, ?_⟩
   ·rw [stO, rdE_at (k := k32) (show i < hh.length by rw [h2.1]; exact hi)]
   ·simp only [stO, List.length_append, beL_length]
    omega
  ·intro n out ho
   simp only [i_hash.l2]
   rw [decide_f (by omega), cf]
 ·intro n j h hj hh
  have hj' : 64 * j + 64 ≤ (padded l).length := by rw [hpl]; omega
  have hpl' : (padded l).length ≤ 1000000000100 := by rw [hpl]; omega
  simp only [i_hash.l1]
  rw [strL_size, decide_t (by omega), ct, wr (by omega) (by omega), grd_of (gSl_t (by omega) (by omega) (by omega)), cut_strL, sub_block, blockHash_eq h kK _ ((hpb.drop _).take _) hh.1 kK_len (by simp; omega), bs, show (64 * (j : Int) + 64) = 64 * ((j + 1 : Nat) : Int) by omega]
  exact ⟨rfl, blockF_len _ _ _, blockF_words _ _ _⟩
 ·intro n h hh
  simp only [i_hash.l1]
  rw [strL_size, hpl, decide_f (by omega), cf]
theorem pad_s (kke : List Int → List Int → List Int → Option ByteArray) (b h : List Int) : ∀ (m n : Nat) (acc : List Int), m < n → m < 64 → (acc.length + m) % 64 = 56 → acc.length + m ≤ 1000000001000 → gq90.l1 kke n b h acc = kke b h (acc ++ List.replicate m 0)
 | 0, n + 1, acc, _, _, e, hl => by
  simp only [gq90.l1]
  rw [grd_of (gNz_t (by decide)), tmod_pos (by omega), show ((((acc.length : Nat) : Int) % 64) != 56) = false from bne_eq_false_iff_eq.2 (by omega), cf]
  simp
 | m + 1, n + 1, acc, hn, hm, e, hl => by
  simp only [gq90.l1]
  rw [grd_of (gNz_t (by decide)), tmod_pos (by omega), show (((acc.length : Int) % 64) != 56) = true by simp; omega, ct, grd_of (gRm_t (by simp; omega))]
  rw [pad_s kke b h m n (acc ++ [0]) (by omega) (by omega) (by simp; omega) (by simp; omega), List.append_assoc]
  rfl
theorem len8 (x : Int) (acc : List Int) : itF (fun (j : Nat) (acc : List Int) => acc ++ [x / 2 ^ (8 * (7 - j)) % 256]) 0 8 acc = acc ++ beL x 8 := by
 simp only [itF, List.append_assoc]
 congr 1
 show [x / 2 ^ 56 % 256, x / 2 ^ 48 % 256, x / 2 ^ 40 % 256, x / 2 ^ 32 % 256, x / 2 ^ 24 % 256, x / 2 ^ 16 % 256, x / 2 ^ 8 % 256, x / 2 ^ 0 % 256] = [x / 256 / 256 / 256 / 256 / 256 / 256 / 256 % 256, x / 256 / 256 / 256 / 256 / 256 / 256 % 256, x / 256 / 256 / 256 / 256 / 256 % 256, x / 256 / 256 / 256 / 256 % 256, x / 256 / 256 / 256 % 256, x / 256 / 256 % 256, x / 256 % 256, x % 256]
 have e : ∀ k : Nat, (2 : Int) ^ k = 2 ^ k := fun _ => rfl
 rw [show (2 : Int) ^ 56 = 72057594037927936 by decide, show (2 : Int) ^ 48 = 281474976710656 by decide, show (2 : Int) ^ 40 = 1099511627776 by decide, show (2 : Int) ^ 32 = 4294967296 by decide, show (2 : Int) ^ 24 = 16777216 by decide, show (2 : Int) ^ 16 = 65536 by decide, show (2 : Int) ^ 8 = 256 by decide, show (2 : Int) ^ 0 = 1 by decide]
 simp only [Int.ediv_ediv_of_nonneg (show (0 : Int) ≤ 256 by decide), Int.ediv_one]
 simp
 omega
theorem hash_s (l : List Int) (hb : IsBytes l) (hl : l.length ≤ 1000000000000) : gq90 l = some (strL (sha l)) := by
 rw [gq90_eq]
 unfold gq90.F
 rw [grd_of (gRm_t (by simp; omega)), grd_of (gRm_t (by simp; omega)), List.nil_append]
 rw [pad_s _ l _ (padZ l.length) fuel (l ++ [128]) (by rw [fuel_eq]; unfold padZ; omega) (by unfold padZ; omega) (by simp [padZ]; omega) (by simp [padZ]; omega)]
 have hpl := padded_len l
 have hpb := padded_bytes hb
 have e8 : IntKind.wrap .i64 (8 * (l.length : Int)) = 8 * (l.length : Int) := wr (by omega) (by omega)
 have key := fun (kke : List Int → List Int → Option ByteArray) => it_loopI (L := fun n j all => gq90.l2 kke n l (7 - j) kH all) (N := 8) (step := fun (j : Nat) (acc : List Int) => acc ++ [8 * (l.length : Int) / 2 ^ (8 * (7 - j)) % 256]) (fin := fun all => kke kH all) (fun i out => out.length ≤ 1000000001000 + i) (by
  intro n j acc hj ha
  have es : IntKind.wrap .u64 (IntKind.wrap .i64 (8 * (7 - (j : Int)))) = ((8 * (7 - j) : Nat) : Int) := by
   rw [wr (by omega) (by omega)]
   simp only [IntKind.wrap, IntKind.signed, IntKind.bits]
   simp
   omega
  simp only [gq90.l2]
  rw [decide_t (by omega), ct, es, grd_of (gSh_t (by omega)), grd_of (gRm_t (by simp; omega)), e8, shr_eq (by omega) (by omega), Int.toNat_natCast, wr8m, wr (by omega) (by omega), show (7 - (j : Int) - 1) = 7 - ((j + 1 : Nat) : Int) by omega]
  exact ⟨rfl, by simp; omega⟩) (by
  intro n acc ha
  simp only [gq90.l2]
  rw [decide_f (by omega), cf]) 8 fuel 0 ((l ++ [128]) ++ List.replicate (padZ l.length) 0) (by omega) (by rw [fuel_eq]; omega) (by simp [padZ]; omega)
 refine (key _).1.trans ?_
 rw [len8]
 show (gq176).bind (fun r => gq90.l3 (fun h2 => gq90.l4 (fun out => some (strL out)) fuel (0 : Int) h2 ([] : List Int)) fuel (padded l) (0 : Int) kH r) = _
 rw [consts_eq, bs]
 have k3 := it_loop (L := fun n j h => gq90.l3 (fun h2 => gq90.l4 (fun out => some (strL out)) fuel (0 : Int) h2 ([] : List Int)) n (padded l) (64 * j) h kK) (N := (l.length + 72) / 64) (step := stH (padded l)) (fin := fun h => gq90.l4 (fun out => some (strL out)) fuel (0 : Int) h ([] : List Int)) HOk ?_ ?_ ((l.length + 72) / 64) fuel 0 kH (by omega) (by rw [fuel_eq]; omega) ⟨kH_len, kH_words⟩
 ·obtain ⟨h1, h2⟩ := k3
  refine h1.trans ?_
  rw [sha]
  obtain ⟨hh, hhd⟩ : ∃ hh, hh = itF (stH (padded l)) 0 ((l.length + 72) / 64) kH := ⟨_, rfl⟩
  rw [← hhd] at h2 ⊢
  have k2 := it_loopI (L := fun n i out => gq90.l4 (fun out => some (strL out)) n i hh out) (N := 8) (step := stO hh) (fin := fun out => some (strL out)) (fun i out => out.length = 4 * i) ?_ ?_ 8 fuel 0 [] (by omega) (by rw [fuel_eq]; omega) (by simp)
  ·exact k2.1
  ·intro n i out hi ho
   have hil : i < hh.length := by rw [h2.1]; exact hi
   have hil' : (i : Int) < (List.length (α := El k32) hh : Int) := by have : List.length (α := El k32) hh = 8 := h2.1; omega
   have hw := h2.2 _ (List.getElem_mem hil)
   simp only [gq90.l4]
   rw [decide_t (by omega), ct, grd_of (gIx_t (by omega) hil'), gSh_l (by decide), grd_of (gIx_t (by omega) hil'), gSh_l (by decide), grd_of (gIx_t (by omega) hil'), gSh_l (by decide), grd_of (gIx_t (by omega) hil'), grd_of (gRm_t (by simp; omega)), Int.toNat_natCast, rdE_at (k := k32) hil, byte4 hw.1 hw.2, wr (by omega) (by omega), show ((i : Int) + 1) = ((i + 1 : Nat) : Int) by omega]
   refine ⟨?_, ?_⟩
   ·rw [stO, rdE_at (k := k32) hil]
   ·simp only [stO, List.length_append, beL_length]
    omega
  ·intro n out ho
   simp only [gq90.l4]
   rw [decide_f (by omega), cf]
 ·intro n j h hj hh
  have hj' : 64 * j + 64 ≤ (padded l).length := by rw [hpl]; omega
  have hpl' : (padded l).length ≤ 1000000000100 := by rw [hpl]; omega
  simp only [gq90.l3]
  rw [decide_t (by omega), ct, wr (by omega) (by omega), grd_of (gSl_t (by omega) (by omega) (by omega)), sub_block, block_s h _ kK ((hpb.drop _).take _) hh.1 kK_len (by simp; omega), bs, show (64 * (j : Int) + 64) = 64 * ((j + 1 : Nat) : Int) by omega]
  exact ⟨rfl, blockF_len _ _ _, blockF_words _ _ _⟩
 ·intro n h hh
  simp only [gq90.l3]
  rw [hpl, decide_f (by omega), cf]
end Go.Proofs.YtdhifkdijlghdaaGreatDoorA
namespace Go.Proofs.YtdhifkdijlghdaaGreatDoorA
open Go
set_option linter.unusedVariables false
set_option linter.unusedSimpArgs false
theorem fuel_big {n : Nat} (h : n < 18446744073709551616) : n < fuel := by rw [fuel_eq]; exact h
theorem setE_eq {k : Kd} (xs : List (El k)) (i : Nat) (e : El k) : setE k xs i e = xs.set i e := rfl
theorem setE_length {k : Kd} (xs : List (El k)) (i : Nat) (e : El k) : (setE k xs i e).length = xs.length := by simp [setE]
def mkL {α : Type} (f : Int → α) (c : Int) : Int → Nat → List α
 | _, 0 => []
 | k, n + 1 => f k :: mkL f c (k + c) n
theorem mkL_length {α : Type} (f : Int → α) (c : Int) (k : Int) (n : Nat) : (mkL f c k n).length = n := by
 induction n generalizing k with
 | zero => rfl
 | succ n ih => simp [mkL, ih]
theorem mkL_get {α : Type} (f : Int → α) (c : Int) (k : Int) (n i : Nat) (h : i < (mkL f c k n).length) : (mkL f c k n)[i] = f (k + c * i) := by
 induction n generalizing k i with
 | zero => simp [mkL] at h
 | succ n ih =>
  cases i with
  | zero => simp [mkL]
  | succ i =>
   simp only [mkL, List.getElem_cons_succ]
   rw [ih]
   congr 1
   rw [Int.natCast_add, Int.mul_add]
   omega
end Go.Proofs.YtdhifkdijlghdaaGreatDoorA
namespace Go.Proofs.YtdhifkdijlghdaaGreatDoorA
open Go
set_option linter.unusedVariables false
set_option linter.unusedSimpArgs false
def nodeL (a b : ByteArray) : List Int := 1 :: (bytesL a ++ bytesL b)
def nodeV (a b : ByteArray) : ByteArray := strL (sha (nodeL a b))
def leafV (a : ByteArray) : ByteArray := strL (sha (0 :: bytesL a))
theorem nodeV_size (a b : ByteArray) : (nodeV a b).size = 32 := by rw [nodeV, strL_size, sha_len]
theorem leafV_size (a : ByteArray) : (leafV a).size = 32 := by rw [leafV, strL_size, sha_len]
theorem nodeL_bytes (a b : ByteArray) : IsBytes (nodeL a b) := IsBytes.cons (by decide) (by decide) ((IsBytes.bytesL a).append (IsBytes.bytesL b))
theorem node_str (a b : ByteArray) : ((⟨#[1]⟩ : ByteArray) ++ a) ++ b = strL (nodeL a b) := by
 have h : (⟨#[1]⟩ : ByteArray) = strL [1] := rfl
 rw [h]
 conv => lhs; rw [← strL_bytesL a, ← strL_bytesL b]
 rw [strL_append, strL_append]
 rfl
theorem nodeHash_i (a b : ByteArray) (ha : a.size ≤ 1000000000) (hb : b.size ≤ 1000000000) : gq180 a b = some (nodeV a b) := by
 unfold gq180 gq180.F
 have h1 : ByteArray.size (⟨#[1]⟩ : ByteArray) = 1 := rfl
 rw [grd_of (gCat_t (by omega)), grd_of (gCat_t (by rw [ByteArray.size_append]; omega)), node_str, hash_i _ (nodeL_bytes a b) (by simp [nodeL, bytesL_length]; omega), bs]
 rfl
theorem node_s (a b : ByteArray) (ha : a.size ≤ 1000000000) (hb : b.size ≤ 1000000000) : gq174 a b = some (nodeV a b) := by
 unfold gq174 gq174.F
 rw [grd_of (gRm_t (by simp [bytesL_length]; omega)), grd_of (gRm_t (by simp [bytesL_length]; omega))]
 have h : ([(1 : Int)] ++ bytesL a) ++ bytesL b = nodeL a b := by simp [nodeL]
 rw [h, hash_s _ (nodeL_bytes a b) (by simp [nodeL, bytesL_length]; omega), bs]
 rfl
theorem leaf_s (a : ByteArray) (ha : a.size ≤ 1000000000) : gq119 a = some (leafV a) := by
 unfold gq119 gq119.F
 rw [grd_of (gRm_t (by simp [bytesL_length]; omega))]
 have h : [(0 : Int)] ++ bytesL a = 0 :: bytesL a := rfl
 rw [h, hash_s _ (IsBytes.cons (by decide) (by decide) (IsBytes.bytesL a)) (by simp [bytesL_length]; omega), bs]
 rfl
theorem half_loop {R R' : Type} (kke : Int → Option R) (kke' : Int → Option R') (N : Int) (hN : N ≤ 1000000000) : ∀ (m n : Nat) (k : Int), 1 ≤ k → k < N → N - k ≤ m → m < n →
  ∃ r, gq179.l1 kke n N k = kke r ∧ gq173.l1 kke' n N k = kke' r ∧ 1 ≤ r ∧ r < N
 | 0, n, k, h1, h2, h3, h4 => by omega
 | m + 1, n + 1, k, h1, h2, h3, h4 => by
  simp only [gq179.l1, gq173.l1]
  rw [wr (x := 2 * k) (by omega) (by omega)]
  by_cases h : 2 * k < N
  ·rw [decide_t h, ct, ct, wr (x := k * 2) (by omega) (by omega)]
   exact half_loop kke kke' N hN m n (k * 2) (by omega) (by omega) (by omega) (by omega)
  ·rw [decide_f h, cf, cf]
   exact ⟨k, rfl, rfl, h1, h2⟩
noncomputable def half (N : Int) : Int := (gq179 N).getD 0
theorem half_eq (N : Int) (h : 2 ≤ N) (hN : N ≤ 1000000000) : gq179 N = some (half N) ∧ gq173 N = some (half N) ∧ 1 ≤ half N ∧ half N < N := by
 obtain ⟨r, h1, h2, h3, h4⟩ := half_loop (fun k => some k) (fun k => some k) N hN N.toNat fuel 1 (by decide) (by omega) (by omega) (by rw [fuel_eq]; omega)
 have h5 : gq179 N = some r := h1
 have h6 : gq173 N = some r := h2
 have h7 : half N = r := by rw [half, h5]; rfl
 rw [h7]
 exact ⟨h5, h6, h3, h4⟩
noncomputable def ways : Nat → Int → Int → List Bool
 | 0, _, _ => []
 | f + 1, at_, size => if size ≤ 1 then [] else if at_ < half size then ways f at_ (half size) ++ [true] else ways f (at_ - half size) (size - half size) ++ [false]
def foldW : ByteArray → List Bool → List ByteArray → ByteArray
 | own, d :: ds, p :: ps => foldW (if d then nodeV own p else nodeV p own) ds ps
 | own, _, _ => own
theorem foldW_snoc (d : Bool) (p : ByteArray) : ∀ (ds : List Bool) (ps : List ByteArray) (own : ByteArray), ds.length = ps.length → foldW own (ds ++ [d]) (ps ++ [p]) = if d then nodeV (foldW own ds ps) p else nodeV p (foldW own ds ps)
 | [], [], own, _ => rfl
 | [], _ :: _, own, h => by simp at h
 | _ :: _, [], own, h => by simp at h
 | e :: ds, q :: ps, own, h => foldW_snoc d p ds ps _ (by simpa using h)
def inputsW : ByteArray → List Bool → List ByteArray → List ByteArray
 | own, d :: ds, p :: ps => strL (if d then nodeL own p else nodeL p own) :: inputsW (if d then nodeV own p else nodeV p own) ds ps
 | _, _, _ => []
theorem inputsW_snoc (d : Bool) (p : ByteArray) : ∀ (ds : List Bool) (ps : List ByteArray) (own : ByteArray), ds.length = ps.length → inputsW own (ds ++ [d]) (ps ++ [p]) = inputsW own ds ps ++ [strL (if d then nodeL (foldW own ds ps) p else nodeL p (foldW own ds ps))]
 | [], [], own, _ => rfl
 | [], _ :: _, own, h => by simp at h
 | _ :: _, [], own, h => by simp at h
 | e :: ds, q :: ps, own, h => congrArg (strL (if e then nodeL own q else nodeL q own) :: ·) (inputsW_snoc d p ds ps _ (by simpa using h))
theorem pnext_eq (proof : List ByteArray) (bad : Bool) (steps : List ByteArray) (h : proof.length ≤ 1000000000) : gq270 proof bad steps = some (proof.headD ByteArray.empty, proof.tail, bad || proof.isEmpty, steps) := by
 unfold gq270 gq270.F
 cases proof with
 | nil => simp
 | cons p ps =>
  rw [show ((List.length (p :: ps) : Int) == 0) = false by simp; omega, cf, grd_of (gIx_t (by decide) (by simp)), grd_of (gSl_t (by decide) (by simp; omega) (by omega)), sub_drop _ _ rfl]
  simp
  rfl
theorem pnode_eq (proof : List ByteArray) (bad : Bool) (steps : List ByteArray) (a b : ByteArray) (ha : a.size ≤ 1000000000) (hb : b.size ≤ 1000000000) (hs : steps.length ≤ 1000000000) : gq269 proof bad steps a b = some (nodeV a b, proof, bad, steps ++ [strL (nodeL a b)]) := by
 unfold gq269 gq269.F
 have h1 : ByteArray.size (⟨#[1]⟩ : ByteArray) = 1 := rfl
 rw [grd_of (gCat_t (by omega)), grd_of (gCat_t (by rw [ByteArray.size_append]; omega)), grd_of (gRm_t (by simp; omega)), nodeHash_i a b ha hb, bs, node_str]
def Small (p : List ByteArray) : Prop := p.length ≤ 100000000 ∧ ∀ s ∈ p, s.size ≤ 1000000
theorem Small.head {p : List ByteArray} (h : Small p) : (p.headD ByteArray.empty).size ≤ 1000000 := by
 cases p with
 | nil => exact Nat.zero_le _
 | cons x l => exact h.2 x (by simp)
theorem Small.drop {p : List ByteArray} (h : Small p) (n : Nat) : Small (p.drop n) := ⟨by have := h.1; simp; omega, fun s hs => h.2 s (List.mem_of_mem_drop hs)⟩
theorem drop_headD {p : List ByteArray} {n : Nat} (h : n < p.length) : (p.drop n).headD ByteArray.empty = p[n] := by rw [drop_cons h]; rfl
theorem incl_i (leaf : ByteArray) (hleaf : leaf.size ≤ 1000000) : ∀ (m fu : Nat) (at_ size : Int) (proof : List ByteArray) (bad : Bool) (steps : List ByteArray), size ≤ m → m < fu → m ≤ 1000000 → at_ ≤ 1000000 → -1000000 ≤ at_ - size → Small proof → steps.length + m ≤ 100000000 →
  ∃ own st, gq203 fu proof bad steps leaf at_ size = some (own, proof.drop (ways m at_ size).length, bad || decide (proof.length < (ways m at_ size).length), st) ∧ own.size ≤ 1000000 ∧ st.length = steps.length + (ways m at_ size).length ∧ (ways m at_ size).length ≤ m ∧
   ((ways m at_ size).length ≤ proof.length → own = foldW leaf (ways m at_ size) (proof.take (ways m at_ size).length) ∧ st = steps ++ inputsW leaf (ways m at_ size) (proof.take (ways m at_ size).length))
 | 0, fu + 1, at_, size, proof, bad, steps, h1, h2, h3, h4, h5, hp, hst => by
  unfold gq203 gq203.F
  rw [decide_t (by omega), ct]
  exact ⟨leaf, steps, by simp [ways], hleaf, rfl, Nat.le_refl _, fun _ => by simp [ways, foldW, inputsW]⟩
 | m + 1, fu + 1, at_, size, proof, bad, steps, h1, h2, h3, h4, h5, hp, hst => by
  unfold gq203 gq203.F
  by_cases hz : size ≤ 1
  ·rw [decide_t hz, ct]
   have : ways (m + 1) at_ size = [] := by simp [ways, hz]
   rw [this]
   exact ⟨leaf, steps, by simp, hleaf, rfl, by simp, fun _ => by simp [foldW, inputsW]⟩
  ·obtain ⟨e1, _, e3, e4⟩ := half_eq size (by omega) (by omega)
   rw [decide_f hz, cf, e1, bs]
   have hpl := hp.1
   by_cases ha : at_ < half size
   ·obtain ⟨own, st, i1, i2, i3, i4, i5⟩ := incl_i leaf hleaf m fu at_ (half size) proof bad steps (by omega) (by omega) (by omega) (by omega) (by omega) hp (by omega)
    have hw : ways (m + 1) at_ size = ways m at_ (half size) ++ [true] := by simp [ways, hz, ha]
    rw [decide_t ha, ct, i1, bs]
    dsimp only
    rw [pnext_eq _ _ _ (by simp; omega), bs]
    dsimp only
    rw [pnode_eq _ _ _ own ((proof.drop (ways m at_ (half size)).length).headD ByteArray.empty) (by omega) (by have := (hp.drop (ways m at_ (half size)).length).head; omega) (by omega), bs, hw]
    refine ⟨nodeV own ((proof.drop (ways m at_ (half size)).length).headD ByteArray.empty), st ++ [strL (nodeL own ((proof.drop (ways m at_ (half size)).length).headD ByteArray.empty))], ?_, by rw [nodeV_size]; omega, by simp [i3]; omega, by simp; omega, fun hle => ?_⟩
    ·dsimp only
     rw [List.tail_drop, List.length_append, List.length_singleton]
     congr 4
     rw [Bool.or_assoc]
     congr 1
     rw [Bool.eq_iff_iff, Bool.or_eq_true, decide_eq_true_iff, decide_eq_true_iff, List.isEmpty_iff, List.drop_eq_nil_iff]
     omega
    ·rw [List.length_append, List.length_singleton] at hle ⊢
     have hlt : (ways m at_ (half size)).length < proof.length := by omega
     obtain ⟨k1, k2⟩ := i5 (by omega)
     rw [take_snoc hlt, foldW_snoc _ _ _ _ _ (by simp; omega), inputsW_snoc _ _ _ _ _ (by simp; omega), if_pos rfl, if_pos rfl, ← k1, drop_headD hlt, k2]
     exact ⟨rfl, by rw [List.append_assoc]⟩
   ·obtain ⟨own, st, i1, i2, i3, i4, i5⟩ := incl_i leaf hleaf m fu (at_ - half size) (size - half size) proof bad steps (by omega) (by omega) (by omega) (by omega) (by omega) hp (by omega)
    have hw : ways (m + 1) at_ size = ways m (at_ - half size) (size - half size) ++ [false] := by simp [ways, hz, ha]
    rw [decide_f ha, cf, wr (by omega) (by omega), wr (by omega) (by omega), i1, bs]
    dsimp only
    rw [pnext_eq _ _ _ (by simp; omega), bs]
    dsimp only
    rw [pnode_eq _ _ _ ((proof.drop (ways m (at_ - half size) (size - half size)).length).headD ByteArray.empty) own (by have := (hp.drop (ways m (at_ - half size) (size - half size)).length).head; omega) (by omega) (by omega), bs, hw]
    refine ⟨nodeV ((proof.drop (ways m (at_ - half size) (size - half size)).length).headD ByteArray.empty) own, st ++ [strL (nodeL ((proof.drop (ways m (at_ - half size) (size - half size)).length).headD ByteArray.empty) own)], ?_, by rw [nodeV_size]; omega, by simp [i3]; omega, by simp; omega, fun hle => ?_⟩
    ·dsimp only
     rw [List.tail_drop, List.length_append, List.length_singleton]
     congr 4
     rw [Bool.or_assoc]
     congr 1
     rw [Bool.eq_iff_iff, Bool.or_eq_true, decide_eq_true_iff, decide_eq_true_iff, List.isEmpty_iff, List.drop_eq_nil_iff]
     omega
    ·rw [List.length_append, List.length_singleton] at hle ⊢
     have hlt : (ways m (at_ - half size) (size - half size)).length < proof.length := by omega
     obtain ⟨k1, k2⟩ := i5 (by omega)
     rw [take_snoc hlt, foldW_snoc _ _ _ _ _ (by simp; omega), inputsW_snoc _ _ _ _ _ (by simp; omega), if_neg (by decide), if_neg (by decide), ← k1, drop_headD hlt, k2]
     exact ⟨rfl, by rw [List.append_assoc]⟩
theorem up_s (leaf : ByteArray) (hleaf : leaf.size ≤ 1000000) : ∀ (m fu : Nat) (at_ size : Int) (proof : List ByteArray), 1 ≤ size → size ≤ m → m < fu → m ≤ 1000000 → at_ ≤ 1000000 → -1000000 ≤ at_ - size → Small proof →
  ∃ own, gq246 fu leaf at_ size proof = some (own, decide (proof.length = (ways m at_ size).length)) ∧ own.size ≤ 1000000 ∧ (proof.length = (ways m at_ size).length → own = foldW leaf (ways m at_ size) proof)
 | 0, fu + 1, at_, size, proof, h0, h1, h2, h3, h4, h5, hp => by omega
 | m + 1, fu + 1, at_, size, proof, h0, h1, h2, h3, h4, h5, hp => by
  unfold gq246 gq246.F
  have hpl := hp.1
  by_cases hz : size = 1
  ·subst hz
   have hw : ways (m + 1) at_ 1 = [] := by simp [ways]
   rw [beq_self_eq_true, ct, hw]
   refine ⟨leaf, ?_, hleaf, fun _ => by simp [foldW]⟩
   congr 2
   rw [Bool.eq_iff_iff, beq_iff_eq, decide_eq_true_iff, List.length_nil]
   omega
  ·obtain ⟨_, e1, e3, e4⟩ := half_eq size (by omega) (by omega)
   rw [show (size == 1) = false by simp [hz], cf]
   have hz' : ¬ size ≤ 1 := by omega
   by_cases hn : proof.length = 0
   ·rw [show ((proof.length : Int) == 0) = true by simp [hn], ct]
    have hne : (ways (m + 1) at_ size).length ≠ 0 := by
     simp only [ways, if_neg hz']
     split <;> simp
    exact ⟨ByteArray.empty, by rw [decide_f (by omega)], Nat.zero_le _, fun h => by omega⟩
   ·obtain ⟨rest, last, hrl⟩ : ∃ rest last, proof = rest ++ [last] := ⟨proof.dropLast, proof.getLast (by rintro rfl; exact hn rfl), (List.dropLast_concat_getLast _).symm⟩
    have hlen : proof.length = rest.length + 1 := by rw [hrl]; simp
    have hrs : Small rest := ⟨by omega, fun s hs => hp.2 s (by rw [hrl]; simp [hs])⟩
    have hls : last.size ≤ 1000000 := hp.2 last (by rw [hrl]; simp)
    have hsub : sub proof 0 (rest.length : Int) = rest := by rw [sub_take, Int.toNat_natCast, hrl]; simp
    have hrd : rdE (.str : Kd) proof rest.length = last := by
     rw [rdE_at (k := .str) (show rest.length < List.length (α := ByteArray) proof by omega)]
     simp [hrl]
    rw [show ((proof.length : Int) == 0) = false by simp; intro h; exact hn (by rw [h]; rfl), cf, e1, bs, hlen, wr (by omega) (by omega), show (((rest.length + 1 : Nat) : Int) - 1) = (rest.length : Int) by omega, grd_of (gIx_t (by omega) (by omega)), grd_of (gSl_t (by omega) (by omega) (by omega)), hsub, Int.toNat_natCast, hrd]
    by_cases ha : at_ < half size
    ·obtain ⟨own, i1, i2, i3⟩ := up_s leaf hleaf m fu at_ (half size) rest (by omega) (by omega) (by omega) (by omega) (by omega) (by omega) hrs
     have hw : ways (m + 1) at_ size = ways m at_ (half size) ++ [true] := by simp [ways, hz', ha]
     rw [decide_t ha, ct, i1, bs]
     dsimp only
     rw [node_s own last (by omega) (by omega), bs, hw]
     refine ⟨nodeV own last, ?_, by rw [nodeV_size]; omega, fun h => ?_⟩
     ·congr 2
      rw [Bool.eq_iff_iff, decide_eq_true_iff, decide_eq_true_iff]
      simp
     ·have hh : rest.length = (ways m at_ (half size)).length := by simp at h; exact h
      rw [hrl, foldW_snoc _ _ _ _ _ hh.symm, if_pos rfl, ← i3 hh]
    ·obtain ⟨own, i1, i2, i3⟩ := up_s leaf hleaf m fu (at_ - half size) (size - half size) rest (by omega) (by omega) (by omega) (by omega) (by omega) (by omega) hrs
     have hw : ways (m + 1) at_ size = ways m (at_ - half size) (size - half size) ++ [false] := by simp [ways, hz', ha]
     rw [decide_f ha, cf, wr (by omega) (by omega), wr (by omega) (by omega), i1, bs]
     dsimp only
     rw [node_s last own (by omega) (by omega), bs, hw]
     refine ⟨nodeV last own, ?_, by rw [nodeV_size]; omega, fun h => ?_⟩
     ·congr 2
      rw [Bool.eq_iff_iff, decide_eq_true_iff, decide_eq_true_iff]
      simp
     ·have hh : rest.length = (ways m (at_ - half size) (size - half size)).length := by simp at h; exact h
      rw [hrl, foldW_snoc _ _ _ _ _ hh.symm, if_neg (by decide), ← i3 hh]
end Go.Proofs.YtdhifkdijlghdaaGreatDoorA
namespace Go.Proofs.YtdhifkdijlghdaaGreatDoorA
open Go
set_option linter.unusedVariables false
set_option linter.unusedSimpArgs false
end Go.Proofs.YtdhifkdijlghdaaGreatDoorA
namespace Go.Proofs.YtdhifkdijlghdaaGreatDoorA
open Go
set_option linter.unusedVariables false
set_option linter.unusedSimpArgs false
structure SrcOK (c : List Int) (a s : Int) (N : Int) : Prop where
 hb : IsBytes c
 hl : c.length ≤ 2097152
 a0 : 0 ≤ a
 aN : a ≤ N
 NN : N ≤ 4611686018427387904
 s0 : 0 ≤ s
 s1 : s < 2147483648
theorem SrcOK.mono {c : List Int} {a s N M : Int} (h : SrcOK c a s N) (h1 : N ≤ M) (h2 : M ≤ 4611686018427387904) : SrcOK c a s M := ⟨h.hb, h.hl, h.a0, by have := h.aN; omega, h2, h.s0, h.s1⟩
theorem byte_eq {c : List Int} {a s N : Int} (h : SrcOK c a s N) (hN : N + 1 ≤ 4611686018427387904) : ∃ v a' s', gq240 c a s = some (v, c, a', s') ∧ (0 ≤ v ∧ v < 256) ∧ SrcOK c a' s' (N + 1) := by
 obtain ⟨hb, hl, a0, aN, _, s0, s1⟩ := h
 unfold gq240 gq240.F
 rw [wr (x := a + 1) (by omega) (by omega), wr (x := a + 1 - 1) (by omega) (by omega)]
 by_cases h1 : a + 1 ≤ c.length
 ·have hlt : a.toNat < c.length := by omega
  have hg := hb.get hlt
  have e : rdE (.int .u8) c (a + 1 - 1).toNat = c[a.toNat] := by
   rw [show (a + 1 - 1) = a by omega]; exact rdE_at (k := .int .u8) hlt
  rw [decide_t h1, cond_true, grd_of (gIx_t (by omega) (by omega)), grd_of (gNz_t (by decide)), grd_of (gIx_t (by omega) (by omega)), e]
  rw [wr (x := c[a.toNat]) (by omega) (by omega), wr (x := s * 31) (by omega) (by omega), wr (x := s * 31 + c[a.toNat]) (by omega) (by omega), wr (x := s * 31 + c[a.toNat] + 7) (by omega) (by omega), tmod_pos (by omega)]
  exact ⟨_, _, _, rfl, hg, hb, hl, by omega, by omega, by omega, by omega, by omega⟩
 ·rw [decide_f h1, cond_false]
  by_cases h2 : a + 1 > 3000
  ·rw [decide_t h2, cond_true]
   exact ⟨_, _, _, rfl, by decide, hb, hl, by omega, by omega, by omega, s0, s1⟩
  ·rw [decide_f h2, cond_false, grd_of (gNz_t (by decide)), grd_of (gNz_t (by decide)), grd_of (gNz_t (by decide))]
   rw [wr (x := s * 1103515245) (by omega) (by omega), wr (x := s * 1103515245 + 12345) (by omega) (by omega), tmod_pos (x := s * 1103515245 + 12345) (by omega), tdiv_pos (by omega), wr (x := (s * 1103515245 + 12345) % 2147483648 / 65536) (by omega) (by omega), tmod_pos (by omega)]
   exact ⟨_, _, _, rfl, by omega, hb, hl, by omega, by omega, by omega, by omega, by omega⟩
theorem next_eq {c : List Int} {a s N : Int} (h : SrcOK c a s N) (hN : N + 3 ≤ 4611686018427387904) (n : Int) (h1 : 1 < n) (h2 : n ≤ 16777216) : ∃ v a' s', gq171 c a s n = some (v, c, a', s') ∧ (0 ≤ v ∧ v < n) ∧ SrcOK c a' s' (N + 3) := by
 unfold gq171 gq171.F
 rw [decide_f (by omega : ¬ n ≤ 1), cond_false]
 obtain ⟨v, a1, s1, e1, hv, h3⟩ := byte_eq h (by omega)
 by_cases h4 : n ≤ 256
 ·rw [decide_t h4, cond_true, e1, Option.bind_some, grd_of (gNz_t (by omega)), tmod_pos hv.1]
  exact ⟨_, _, _, rfl, ⟨Int.emod_nonneg _ (by omega), Int.emod_lt_of_pos _ (by omega)⟩, h3.mono (by omega) (by omega)⟩
 ·obtain ⟨v2, a2, s2, e2, hv2, h5⟩ := byte_eq h3 (by omega)
  obtain ⟨v3, a3, s3, e3, hv3, h6⟩ := byte_eq h5 (by omega)
  rw [decide_f h4, cond_false, e1, Option.bind_some]
  dsimp only
  rw [e2, Option.bind_some]
  dsimp only
  rw [e3, Option.bind_some]
  dsimp only
  rw [grd_of (gNz_t (by omega)), wr (x := v * 65536) (by omega) (by omega), wr (x := v2 * 256) (by omega) (by omega), wr (x := v * 65536 + v2 * 256) (by omega) (by omega), wr (x := v * 65536 + v2 * 256 + v3) (by omega) (by omega), tmod_pos (by omega)]
  exact ⟨_, _, _, rfl, ⟨Int.emod_nonneg _ (by omega), Int.emod_lt_of_pos _ (by omega)⟩, h6.mono (by omega) (by omega)⟩
theorem source_eq (c : List Int) (hb : IsBytes c) (hl : c.length ≤ 1048576) : ∃ s, gq84 c = some (c, 0, s) ∧ SrcOK c 0 s 0 := by
 unfold gq84 gq84.F
 rw [grd_of (gNz_t (by decide)), tmod_pos (by omega)]
 exact ⟨_, rfl, hb, by omega, by omega, by omega, by decide, by omega, by omega⟩
theorem chance_eq {c : List Int} {a s N : Int} (h : SrcOK c a s N) (hN : N + 3 ≤ 4611686018427387904) (n : Int) (h1 : 1 < n) (h2 : n ≤ 16777216) : ∃ v a' s', gq172 c a s n = some (v, c, a', s') ∧ SrcOK c a' s' (N + 3) := by
 unfold gq172 gq172.F
 obtain ⟨v, a', s', e, hv, h3⟩ := next_eq h hN n h1 h2
 rw [e, Option.bind_some]
 exact ⟨_, _, _, rfl, h3⟩
end Go.Proofs.YtdhifkdijlghdaaGreatDoorA
namespace Go.Proofs.YtdhifkdijlghdaaGreatDoorA
open Go
set_option linter.unusedVariables false
set_option linter.unusedSimpArgs false
end Go.Proofs.YtdhifkdijlghdaaGreatDoorA
namespace Go.Proofs.YtdhifkdijlghdaaGreatDoorA
open Go
set_option linter.unusedVariables false
set_option linter.unusedSimpArgs false
end Go.Proofs.YtdhifkdijlghdaaGreatDoorA
namespace Go.Proofs.YtdhifkdijlghdaaGreatDoorA
open Go
set_option linter.unusedVariables false
set_option linter.unusedSimpArgs false
theorem any_not_all {α : Type} (q : α → Bool) (l : List α) : (!(l.any fun x => !q x)) = l.all q := by
 induction l with
 | nil => rfl
 | cons x l ih => rw [List.any_cons, List.all_cons, ← ih]; cases q x <;> simp
def is32 (t : ByteArray) : Bool := decide (t.size = 32)
theorem isHash_eq (l : List ByteArray) (h : l.length ≤ 1000000000) : gq111 l = some (l.all is32) := by
 unfold gq111 gq111.F gq181 gq181.F gq243 gq243.F
 have hq : ∀ x ∈ l, (fun x : ByteArray => (fun t : ByteArray × Unit => (gq193 t.1).bind fun a => some (a, ())) (x, ())) x = some (!is32 x, ()) := by
  intro x _
  have : ((x.size : Int) != 32) = !is32 x := by
   rw [Bool.eq_iff_iff, bne_iff_ne, is32, Bool.not_eq_true', decide_eq_false_iff_not]
   omega
  simp only [gq193, gq193.F, bs, this]
 have := find_loop (k := .str) (L := gq243.l1 (fun t => (gq193 t.1).bind fun a => some (a, ())) (some (-1 : Int)) (fun i => some i)) (fun n s i j => rfl) (l := l) (by omega) hq l.length fuel 0 (by omega) (fuel_big (by omega))
 rw [Int.natCast_zero] at this
 rw [this, List.drop_zero, ← any_not_all, ← findIdx_any]
 cases l.findIdx? fun x => !is32 x with
 | none => rfl
 | some d => simp
theorem l06Hashes_eq (l : List ByteArray) (h : l.length ≤ 1000000000) : gq103 l = some (decide (l.length ≤ 64) && l.all is32) := by
 unfold gq103 gq103.F
 by_cases h0 : l.length > 64
 ·rw [decide_t (by omega), ct, decide_f (by omega), Bool.false_and]
 ·rw [decide_f (by omega), cf, decide_t (by omega), Bool.true_and]
  have key : ∀ (m n j : Nat), j + m = l.length → m < n → gq103.l1 (some true) (fun b => some b) n l j = some ((l.drop j).all is32) := by
   intro m
   induction m with
   | zero =>
    intro n j e hn
    obtain ⟨n, rfl⟩ : ∃ q, n = q + 1 := ⟨n - 1, by omega⟩
    simp only [gq103.l1]
    rw [decide_f (by omega), cf, List.drop_of_length_le (by omega)]
    rfl
   | succ m ih =>
    intro n j e hn
    obtain ⟨n, rfl⟩ : ∃ q, n = q + 1 := ⟨n - 1, by omega⟩
    have hj : j < l.length := by omega
    simp only [gq103.l1]
    rw [decide_t (by omega), ct, grd_of (gIx_t (by omega) (by omega)), Int.toNat_natCast, rdE_at (k := .str) hj, drop_cons hj, List.all_cons]
    by_cases h1 : l[j].size = 32
    ·rw [show ((l[j].size : Int) != 32) = false by simp [h1], cf, wr (by omega) (by omega), show ((j : Int) + 1) = ((j + 1 : Nat) : Int) by omega, ih n (j + 1) (by omega) (by omega), show is32 l[j] = true from decide_eq_true h1, Bool.true_and]
    ·rw [show ((l[j].size : Int) != 32) = true by simp; omega, ct, show is32 l[j] = false from decide_eq_false h1, Bool.false_and]
  exact key l.length fuel 0 (by omega) (fuel_big (by omega))
theorem isText_nil : gq96 [] = some true := by
 unfold gq96 gq96.F gq181 gq181.F gq243 gq243.F
 obtain ⟨q, hq⟩ : ∃ q, fuel = q + 1 := ⟨fuel - 1, by rw [fuel_eq]⟩
 rw [hq]
 rfl
theorem proofCode_nil (p : List ByteArray) (h : p.length ≤ 1000000000) : gq98 p [] = some (if p.length > 4096 then 2 else if (decide (p.length ≤ 64) && p.all is32) = true then 0 else 1) := by
 unfold gq98 gq98.F gq98.j1 gq178 gq178.F
 rw [bs]
 by_cases h0 : p.length > 4096
 ·rw [decide_f (by omega), Bool.not_false, ct, if_pos h0]
  rfl
 ·rw [decide_t (by omega), Bool.not_true, cf, isText_nil, bs]
  dsimp only
  rw [Bool.not_true, cf, isHash_eq [] (by decide), bs, show (List.all [] is32) = true from rfl, Bool.not_true, cf, if_neg h0]
  by_cases h1 : p.length ≤ 64
  ·rw [decide_f (by omega), cf, isHash_eq p h, bs, decide_t h1, Bool.true_and]
   cases p.all is32 <;> rfl
  ·rw [decide_t (by omega), ct, decide_f h1, Bool.false_and, if_neg (by decide)]
def stmOK (S : Int) (L M : ByteArray) : Bool := (decide (0 ≤ S) && decide (S ≤ 50)) && (is32 L && is32 M)
def trOK (K : ByteArray) (H : Bool) (S : Int) (L M : ByteArray) : Bool := is32 K && cond H (stmOK S L M) ((S == 0) && (sEq L ByteArray.empty && sEq M ByteArray.empty))
theorem statementOK_i (S : Int) (L M : ByteArray) : gq95 S L M = some (stmOK S L M) := by
 unfold gq95 gq95.F stmOK
 rw [within_eq, bs, isHash_eq [L, M] (by simp), bs]
 cases (decide (0 ≤ S) && decide (S ≤ 50)) with
 | false => rw [cf, Bool.false_and]
 | true => rw [ct, Bool.true_and]; simp
theorem size32 (t : ByteArray) : ((t.size : Int) == 32) = is32 t := by
 rw [Bool.eq_iff_iff, beq_iff_eq, is32, decide_eq_true_iff]
 omega
theorem size32' (t : ByteArray) : ((t.size : Int) != 32) = !is32 t := by rw [bne, size32]
theorem statement_s (S : Int) (L M : ByteArray) : gq102 S L M = some (stmOK S L M) := by
 unfold gq102 gq102.F stmOK
 rw [l01In_eq, bs, size32, size32]
 cases (decide (0 ≤ S) && decide (S ≤ 50)) with
 | false => rw [cf, Bool.false_and]
 | true =>
  rw [ct, Bool.true_and]
  cases is32 L <;> rfl
theorem trustOK_i (K : ByteArray) (H : Bool) (S : Int) (L M : ByteArray) : gq43 K H S L M = some (trOK K H S L M) := by
 unfold gq43 gq43.F gq116 gq116.F trOK
 rw [isHash_eq [K] (by simp), bs]
 simp only [bs, statementOK_i, List.all_cons, List.all_nil, Bool.and_true]
 cases is32 K <;> cases H <;> rfl
theorem trustOK_s (K : ByteArray) (H : Bool) (S : Int) (L M : ByteArray) : gq101 K H S L M = some (trOK K H S L M) := by
 unfold gq101 gq101.F trOK
 rw [size32', statement_s]
 simp only [bs]
 cases is32 K with
 | false => rfl
 | true =>
  cases H with
  | true => rfl
  | false =>
   cases (S == 0) with
   | false => rfl
   | true => cases sEq L ByteArray.empty <;> rfl
theorem inclusionRoot_i (leaf : ByteArray) (at_ size : Int) (proof : List ByteArray) (hleaf : leaf.size ≤ 1000000) (hp : Small proof) :
  gq121 leaf at_ size proof = some (if (1 ≤ size ∧ size ≤ 64) ∧ 0 ≤ at_ ∧ at_ ≤ size - 1 then (if proof.length = (ways 64 at_ size).length then (foldW leaf (ways 64 at_ size) proof, inputsW leaf (ways 64 at_ size) proof, 0) else (ByteArray.empty, [], 10)) else (ByteArray.empty, [], 4)) := by
 unfold gq121 gq121.F
 rw [within_eq, bs]
 by_cases h1 : 1 ≤ size ∧ size ≤ 64
 ·rw [decide_t h1.1, decide_t h1.2, Bool.and_self, Bool.not_true, cf, within_eq, bs, wr (x := size - 1) (by omega) (by omega)]
  by_cases h2 : 0 ≤ at_ ∧ at_ ≤ size - 1
  ·rw [decide_t h2.1, decide_t h2.2, Bool.and_self, Bool.not_true, cf, if_pos ⟨h1, h2⟩]
   obtain ⟨own, st, i1, i2, i3, i4, i5⟩ := incl_i leaf hleaf 64 fuel at_ size proof false [] (by omega) (fuel_big (by omega)) (by omega) (by omega) (by omega) hp (by simp)
   rw [i1, bs]
   simp only [Bool.false_or]
   by_cases h3 : proof.length < (ways 64 at_ size).length
   ·rw [decide_t h3, ct, if_neg (by omega)]
   ·rw [decide_f h3, cf]
    by_cases h4 : proof.length = (ways 64 at_ size).length
    ·obtain ⟨k1, k2⟩ := i5 (by omega)
     rw [← h4, List.take_length] at k1 k2
     rw [decide_f (by rw [List.length_drop]; omega), cf, if_pos h4, k1, k2, List.nil_append]
    ·rw [decide_t (by rw [List.length_drop]; omega), ct, if_neg h4]
  ·rw [show (decide (0 ≤ at_) && decide (at_ ≤ size - 1)) = false by rw [← Bool.not_eq_true, Bool.and_eq_true, decide_eq_true_iff, decide_eq_true_iff]; exact h2, Bool.not_false, ct, if_neg (fun h => h2 h.2)]
 ·rw [show (decide (1 ≤ size) && decide (size ≤ 64)) = false by rw [← Bool.not_eq_true, Bool.and_eq_true, decide_eq_true_iff, decide_eq_true_iff]; exact h1, Bool.not_false, ct, if_neg (fun h => h1 h.1)]
end Go.Proofs.YtdhifkdijlghdaaGreatDoorA
namespace Go.Proofs.YtdhifkdijlghdaaGreatDoorA
open Go
set_option linter.unusedVariables false
set_option linter.unusedSimpArgs false
noncomputable def grN : Nat → Int → Int → Bool → Nat
 | 0, _, _, _ => 0
 | f + 1, old, size, whole => if old = size then (cond whole 0 1) else if old ≤ half size then grN f old (half size) whole + 1 else grN f (old - half size) (size - half size) false + 1
noncomputable def grV (root : ByteArray) : Nat → Int → Int → Bool → List ByteArray → ByteArray × ByteArray
 | 0, _, _, _, _ => (root, root)
 | f + 1, old, size, whole, q => if old = size then (cond whole (root, root) (q.getD 0 ByteArray.empty, q.getD 0 ByteArray.empty))
  else if old ≤ half size then ((grV root f old (half size) whole q).1, nodeV (grV root f old (half size) whole q).2 (q.getD (grN f old (half size) whole) ByteArray.empty))
  else (nodeV (q.getD (grN f (old - half size) (size - half size) false) ByteArray.empty) (grV root f (old - half size) (size - half size) false q).1, nodeV (q.getD (grN f (old - half size) (size - half size) false) ByteArray.empty) (grV root f (old - half size) (size - half size) false q).2)
theorem grN_succ (f : Nat) (old size : Int) (whole : Bool) : grN (f + 1) old size whole = if old = size then (cond whole 0 1) else if old ≤ half size then grN f old (half size) whole + 1 else grN f (old - half size) (size - half size) false + 1 := rfl
theorem grV_succ (root : ByteArray) (f : Nat) (old size : Int) (whole : Bool) (q : List ByteArray) : grV root (f + 1) old size whole q = if old = size then (cond whole (root, root) (q.getD 0 ByteArray.empty, q.getD 0 ByteArray.empty))
  else if old ≤ half size then ((grV root f old (half size) whole q).1, nodeV (grV root f old (half size) whole q).2 (q.getD (grN f old (half size) whole) ByteArray.empty))
  else (nodeV (q.getD (grN f (old - half size) (size - half size) false) ByteArray.empty) (grV root f (old - half size) (size - half size) false q).1, nodeV (q.getD (grN f (old - half size) (size - half size) false) ByteArray.empty) (grV root f (old - half size) (size - half size) false q).2) := rfl
theorem Small.getD {p : List ByteArray} (h : Small p) (n : Nat) : (p.getD n ByteArray.empty).size ≤ 1000000 := by
 rw [List.getD_eq_getElem?_getD]
 cases hg : p[n]? with
 | none => simp
 | some s => exact h.2 s (List.mem_of_getElem? hg)
theorem grV_small (root : ByteArray) (hr : root.size ≤ 1000000) (q : List ByteArray) (hq : Small q) : ∀ (f : Nat) (old size : Int) (whole : Bool), (grV root f old size whole q).1.size ≤ 1000000 ∧ (grV root f old size whole q).2.size ≤ 1000000
 | 0, _, _, _ => ⟨hr, hr⟩
 | f + 1, old, size, whole => by
  rw [grV_succ]
  split
  ·cases whole with
   | true => exact ⟨hr, hr⟩
   | false => exact ⟨hq.getD 0, hq.getD 0⟩
  ·split
   ·exact ⟨(grV_small root hr q hq f _ _ _).1, by rw [nodeV_size]; decide⟩
   ·exact ⟨by rw [nodeV_size]; decide, by rw [nodeV_size]; decide⟩
theorem head_drop (p : List ByteArray) (n : Nat) : (p.drop n).headD ByteArray.empty = p.getD n ByteArray.empty := by
 rw [List.getD_eq_getElem?_getD, List.headD_eq_head?_getD, List.head?_drop]
theorem grow_i (root : ByteArray) (hr : root.size ≤ 1000000) (proof : List ByteArray) (hp : Small proof) (steps : List ByteArray) : ∀ (m fu : Nat) (bad : Bool) (old size : Int) (whole : Bool), 1 ≤ old → old ≤ size → size ≤ m → m < fu → m ≤ 1000000 →
  gq302 fu proof bad steps old size whole root = some ((grV root m old size whole proof).1, (grV root m old size whole proof).2, proof.drop (grN m old size whole), bad || decide (proof.length < grN m old size whole), steps)
 | 0, fu + 1, bad, old, size, whole, h0, h1, h2, h3, h4 => by omega
 | m + 1, fu + 1, bad, old, size, whole, h0, h1, h2, h3, h4 => by
  have hpl := hp.1
  unfold gq302 gq302.F gq302.j1
  rw [grV_succ, grN_succ]
  by_cases hz : old = size
  ·rw [if_pos hz, if_pos hz, show (old == size) = true by simp [hz], ct]
   cases whole with
   | true => simp
   | false =>
    simp only [cf, ct, pnext_eq proof bad steps (by omega), bs]
    rw [show (old == size) = true by simp [hz], ct, show proof.headD ByteArray.empty = proof.getD 0 ByteArray.empty by cases proof <;> rfl, show proof.tail = proof.drop 1 by cases proof <;> rfl, show proof.isEmpty = decide (proof.length < 1) by cases proof <;> simp]
  ·rw [if_neg hz, if_neg hz]
   simp only [show (old == size) = false by simp [hz], cf]
   obtain ⟨e1, _, e3, e4⟩ := half_eq size (by omega) (by omega)
   rw [e1, bs]
   by_cases ha : old ≤ half size
   ·have hs := grV_small root hr proof hp m old (half size) whole
    have hg := hp.getD (grN m old (half size) whole)
    rw [decide_t ha, ct, if_pos ha, if_pos ha, grow_i root hr proof hp steps m fu bad old (half size) whole h0 ha (by omega) (by omega) (by omega), bs]
    dsimp only
    rw [pnext_eq _ _ _ (by simp; omega), bs]
    dsimp only
    rw [head_drop, nodeHash_i _ _ (by omega) (by omega), bs, List.tail_drop]
    congr 4
    rw [Bool.or_assoc]
    congr 2
    rw [Bool.eq_iff_iff, Bool.or_eq_true, decide_eq_true_iff, decide_eq_true_iff, List.isEmpty_iff, List.drop_eq_nil_iff]
    omega
   ·have hs := grV_small root hr proof hp m (old - half size) (size - half size) false
    have hg := hp.getD (grN m (old - half size) (size - half size) false)
    rw [decide_f ha, cf, if_neg ha, if_neg ha, wr (by omega) (by omega), wr (by omega) (by omega), grow_i root hr proof hp steps m fu bad (old - half size) (size - half size) false (by omega) (by omega) (by omega) (by omega) (by omega), bs]
    dsimp only
    rw [pnext_eq _ _ _ (by simp; omega), bs]
    dsimp only
    rw [head_drop, nodeHash_i _ _ (by omega) (by omega), bs, nodeHash_i _ _ (by omega) (by omega), bs, List.tail_drop]
    congr 4
    rw [Bool.or_assoc]
    congr 2
    rw [Bool.eq_iff_iff, Bool.or_eq_true, decide_eq_true_iff, decide_eq_true_iff, List.isEmpty_iff, List.drop_eq_nil_iff]
    omega
theorem getD_app {q r : List ByteArray} {n : Nat} (h : n < q.length) : (q ++ r).getD n ByteArray.empty = q.getD n ByteArray.empty := by
 rw [List.getD_eq_getElem?_getD, List.getD_eq_getElem?_getD, List.getElem?_append_left h]
theorem grV_app (root : ByteArray) (q r : List ByteArray) : ∀ (f : Nat) (old size : Int) (whole : Bool), grN f old size whole ≤ q.length → grV root f old size whole (q ++ r) = grV root f old size whole q
 | 0, _, _, _, _ => rfl
 | f + 1, old, size, whole, h => by
  rw [grN_succ] at h
  rw [grV_succ, grV_succ]
  by_cases hz : old = size
  ·rw [if_pos hz] at h
   rw [if_pos hz, if_pos hz]
   cases whole with
   | true => rfl
   | false => rw [cond_false] at h; rw [getD_app (by omega)]
  ·rw [if_neg hz] at h
   rw [if_neg hz, if_neg hz]
   by_cases ha : old ≤ half size
   ·rw [if_pos ha] at h
    rw [if_pos ha, if_pos ha, grV_app root q r f _ _ _ (by omega), getD_app (by omega)]
   ·rw [if_neg ha] at h
    rw [if_neg ha, if_neg ha, grV_app root q r f _ _ _ (by omega), getD_app (by omega)]
theorem grow_s (root : ByteArray) (hr : root.size ≤ 1000000) : ∀ (m fu : Nat) (old size : Int) (whole : Bool) (proof : List ByteArray), 1 ≤ old → old ≤ size → size ≤ m → m < fu → m ≤ 1000000 → Small proof →
  ∃ a b, gq105 fu old size root proof whole = some (a, b, decide (proof.length = grN m old size whole)) ∧ a.size ≤ 1000000 ∧ b.size ≤ 1000000 ∧ (proof.length = grN m old size whole → (a, b) = grV root m old size whole proof)
 | 0, fu + 1, old, size, whole, proof, h0, h1, h2, h3, h4, hp => by omega
 | m + 1, fu + 1, old, size, whole, proof, h0, h1, h2, h3, h4, hp => by
  have hpl := hp.1
  unfold gq105 gq105.F
  rw [grV_succ, grN_succ]
  by_cases hz : old = size
  ·simp only [if_pos hz]
   rw [show (old == size) = true by simp [hz], ct]
   cases whole with
   | true =>
    refine ⟨root, root, ?_, hr, hr, fun _ => rfl⟩
    rw [ct]
    congr 3
    rw [Bool.eq_iff_iff, beq_iff_eq, decide_eq_true_iff, cond_true]
    omega
   | false =>
    rw [cf]
    by_cases h5 : proof.length = 1
    ·rw [show ((proof.length : Int) != 1) = false by simp [h5], cf, grd_of (gIx_t (by decide) (by omega)), grd_of (gIx_t (by decide) (by omega)), show (0 : Int).toNat = 0 from rfl]
     have e : rdE (.str : Kd) proof 0 = proof.getD 0 ByteArray.empty := rfl
     refine ⟨_, _, by rw [decide_t (by rw [cond_false]; exact h5)], ?_, ?_, fun _ => by rw [e]; rfl⟩
     ·rw [e]; exact hp.getD 0
     ·rw [e]; exact hp.getD 0
    ·rw [show ((proof.length : Int) != 1) = true by simp; omega, ct]
     exact ⟨_, _, by rw [decide_f (by rw [cond_false]; exact h5)], Nat.zero_le _, Nat.zero_le _, fun h => absurd h (by rw [cond_false]; exact h5)⟩
  ·simp only [if_neg hz]
   rw [show (old == size) = false by simp [hz], cf]
   obtain ⟨_, e1, e3, e4⟩ := half_eq size (by omega) (by omega)
   by_cases hn : proof.length = 0
   ·rw [show ((proof.length : Int) == 0) = true by simp [hn], ct]
    refine ⟨_, _, by rw [decide_f (by split <;> omega)], Nat.zero_le _, Nat.zero_le _, fun h => ?_⟩
    split at h <;> omega
   ·obtain ⟨rest, last, hrl⟩ : ∃ rest last, proof = rest ++ [last] := ⟨proof.dropLast, proof.getLast (by rintro rfl; exact hn rfl), (List.dropLast_concat_getLast _).symm⟩
    have hlen : proof.length = rest.length + 1 := by rw [hrl]; simp
    have hrs : Small rest := ⟨by omega, fun s hs => hp.2 s (by rw [hrl]; simp [hs])⟩
    have hls : last.size ≤ 1000000 := hp.2 last (by rw [hrl]; simp)
    have hsub : sub proof 0 (rest.length : Int) = rest := by rw [sub_take, Int.toNat_natCast, hrl]; simp
    have hrd : rdE (.str : Kd) proof rest.length = last := by
     rw [rdE_at (k := .str) (show rest.length < List.length (α := ByteArray) proof by omega)]
     simp [hrl]
    have hgl : proof.getD rest.length ByteArray.empty = last := by rw [hrl]; simp
    rw [show ((proof.length : Int) == 0) = false by simp; intro h; exact hn (by rw [h]; rfl), cf, e1, bs, hlen, wr (by omega) (by omega), show (((rest.length + 1 : Nat) : Int) - 1) = (rest.length : Int) by omega, grd_of (gIx_t (by omega) (by omega)), grd_of (gSl_t (by omega) (by omega) (by omega)), hsub, Int.toNat_natCast, hrd]
    by_cases ha : old ≤ half size
    ·simp only [if_pos ha]
     obtain ⟨a, b, i1, i2, i3, i4⟩ := grow_s root hr m fu old (half size) whole rest h0 ha (by omega) (by omega) (by omega) hrs
     rw [decide_t ha, ct, i1, bs]
     dsimp only
     rw [node_s b last (by omega) (by omega), bs]
     refine ⟨a, nodeV b last, ?_, i2, by rw [nodeV_size]; decide, fun h => ?_⟩
     ·congr 3
      rw [decide_eq_decide]
      omega
     ·have hg : rest.length = grN m old (half size) whole := by omega
      rw [hrl, grV_app root rest [last] m _ _ _ (by omega), ← i4 hg, ← hrl, ← hg, hgl]
    ·simp only [if_neg ha]
     obtain ⟨a, b, i1, i2, i3, i4⟩ := grow_s root hr m fu (old - half size) (size - half size) false rest (by omega) (by omega) (by omega) (by omega) (by omega) hrs
     rw [decide_f ha, cf, wr (by omega) (by omega), wr (by omega) (by omega), i1, bs]
     dsimp only
     rw [node_s last a (by omega) (by omega), bs, node_s last b (by omega) (by omega), bs]
     refine ⟨nodeV last a, nodeV last b, ?_, by rw [nodeV_size]; decide, by rw [nodeV_size]; decide, fun h => ?_⟩
     ·congr 3
      rw [decide_eq_decide]
      omega
     ·have hg : rest.length = grN m (old - half size) (size - half size) false := by omega
      rw [hrl, grV_app root rest [last] m _ _ _ (by omega), ← i4 hg, ← hrl, ← hg, hgl]
theorem growthRoots_i (root : ByteArray) (hr : root.size ≤ 1000000) (proof : List ByteArray) (hp : Small proof) (old size : Int) (h1 : 1 ≤ old) (h2 : old ≤ size) (h3 : size ≤ 64) :
  gq245 old size root proof = some (if proof.length = grN 64 old size true then ((grV root 64 old size true proof).1, (grV root 64 old size true proof).2, 0) else (ByteArray.empty, ByteArray.empty, 10)) := by
 unfold gq245 gq245.F
 rw [within_eq, bs, decide_t (show (1 : Int) ≤ size by omega), decide_t h3, Bool.and_self, Bool.not_true, cf, within_eq, bs, decide_t h1, decide_t h2, Bool.and_self, Bool.not_true, cf, grow_i root hr proof hp [] 64 fuel false old size true h1 h2 (by omega) (fuel_big (by decide)) (by decide), bs]
 simp only [Bool.false_or]
 by_cases h4 : proof.length < grN 64 old size true
 ·rw [decide_t h4, ct, if_neg (by omega)]
 ·rw [decide_f h4, cf]
  by_cases h5 : proof.length = grN 64 old size true
  ·rw [decide_f (by rw [List.length_drop]; omega), cf, if_pos h5]
  ·rw [decide_t (by rw [List.length_drop]; omega), ct, if_neg h5]
end Go.Proofs.YtdhifkdijlghdaaGreatDoorA
namespace Go.Proofs.YtdhifkdijlghdaaGreatDoorA
open Go
set_option linter.unusedVariables false
set_option linter.unusedSimpArgs false
def isTx (t : ByteArray) : Bool := decide (t.size ≤ 65536)
theorem isText_eq (l : List ByteArray) (h : l.length ≤ 1000000000) : gq96 l = some (l.all isTx) := by
 unfold gq96 gq96.F gq181 gq181.F gq243 gq243.F
 have hq : ∀ x ∈ l, (fun x : ByteArray => (fun t : ByteArray × Unit => (gq182 t.1).bind fun a => some (a, ())) (x, ())) x = some (!isTx x, ()) := by
  intro x _
  have : decide ((x.size : Int) > 65536) = !isTx x := by
   rw [Bool.eq_iff_iff, decide_eq_true_iff, isTx, Bool.not_eq_true', decide_eq_false_iff_not]
   omega
  simp only [gq182, gq182.F, bs, this]
 have := find_loop (k := .str) (L := gq243.l1 (fun t => (gq182 t.1).bind fun a => some (a, ())) (some (-1 : Int)) (fun i => some i)) (fun n s i j => rfl) (l := l) (by omega) hq l.length fuel 0 (by omega) (fuel_big (by omega))
 rw [Int.natCast_zero] at this
 rw [this, List.drop_zero, ← any_not_all, ← findIdx_any]
 cases l.findIdx? fun x => !isTx x with
 | none => rfl
 | some d => simp
def prOK (p : List ByteArray) : Bool := decide (p.length ≤ 64) && p.all is32
theorem ways_len : ∀ (f : Nat) (at_ size : Int), (ways f at_ size).length ≤ f
 | 0, _, _ => by simp [ways]
 | f + 1, at_, size => by
  unfold ways
  split
  ·simp
  ·split
   ·have := ways_len f at_ (half size); simp; omega
   ·have := ways_len f (at_ - half size) (size - half size); simp; omega
theorem small_of {p : List ByteArray} (h : prOK p = true) : Small p ∧ p.length ≤ 64 := by
 unfold prOK at h
 rw [Bool.and_eq_true, decide_eq_true_iff, List.all_eq_true] at h
 exact ⟨⟨by omega, fun s hs => by have := of_decide_eq_true (h.2 s hs); omega⟩, h.1⟩
end Go.Proofs.YtdhifkdijlghdaaGreatDoorA
namespace Go.Proofs.YtdhifkdijlghdaaGreatDoorA
open Go
set_option linter.unusedVariables false
set_option linter.unusedSimpArgs false
theorem hi8 {x : Int} (h0 : 0 ≤ x) (h1 : x < 256) : iShr .u8 x 4 = x / 16 := by
 unfold iShr
 rw [show min (4 : Int).toNat (IntKind.bits .u8) = 4 from rfl, Int.fdiv_eq_ediv_of_nonneg _ (by decide)]
 rfl
theorem lo8 {x : Int} (h0 : 0 ≤ x) (h1 : x < 256) : iAnd .u8 x 15 = x % 16 := by
 obtain ⟨n, rfl⟩ : ∃ n : Nat, x = n := ⟨x.toNat, by omega⟩
 unfold iAnd bits
 rw [BitVec.toNat_and, BitVec.ofInt_natCast, BitVec.toNat_ofNat, Nat.mod_eq_of_lt (show n < 2 ^ IntKind.bits .u8 from by simp [IntKind.bits]; omega), show (BitVec.ofInt (IntKind.bits .u8) 15).toNat = 2 ^ 4 - 1 from rfl, Nat.and_two_pow_sub_one_eq_mod, wr8m]
 omega
def hxD : ByteArray := ⟨#[48, 49, 50, 51, 52, 53, 54, 55, 56, 57, 97, 98, 99, 100, 101, 102]⟩
theorem hxD_byte (i : Int) : 0 ≤ byteAt hxD i ∧ byteAt hxD i < 256 := by
 unfold byteAt
 split
 ·have := (hxD[i.toNat]).toNat_lt
  omega
 ·omega
def hexL : List Int → List Int
 | [] => []
 | x :: l => byteAt hxD (x / 16) :: byteAt hxD (x % 16) :: hexL l
theorem hexL_len : ∀ l : List Int, (hexL l).length = 2 * l.length
 | [] => rfl
 | x :: l => by simp only [hexL, List.length_cons, hexL_len l]; omega
theorem hex_i {R : Type} (kke : List Int → Option R) (l : List Int) (hb : IsBytes l) (hl : l.length ≤ 1000000) : ∀ (m fu j : Nat) (out : List Int), j + m = l.length → m < fu → out.length + 2 * m ≤ 10000000 →
  gq163.l1 kke fu (strL l) (l.length : Int) (j : Int) out = kke (out ++ hexL (l.drop j))
 | 0, fu + 1, j, out, e, _, _ => by
  simp only [gq163.l1]
  rw [decide_f (by omega), cf, List.drop_of_length_le (by omega), hexL, List.append_nil]
 | m + 1, fu + 1, j, out, e, hf, ho => by
  have hj : j < l.length := by omega
  have hx := hb.get hj
  simp only [gq163.l1]
  rw [decide_t (by omega), ct, grd_of (gIx_t (by omega) (by rw [strL_size]; omega)), grd_of (gSh_t (by decide)), byteAt_strL hb (by omega) (by omega), Int.toNat_natCast, List.getD_eq_getElem?_getD, List.getElem?_eq_getElem hj, Option.getD_some, hi8 hx.1 hx.2, lo8 hx.1 hx.2,
   grd_of (gIx_t (by omega) (by show l[j] / 16 < 16; omega)), grd_of (gIx_t (by omega) (by rw [strL_size]; omega)), grd_of (gIx_t (by omega) (by show l[j] % 16 < 16; omega)), grd_of (gRm_t (by simp; omega)), wr (by omega) (by omega), show ((j : Int) + 1) = ((j + 1 : Nat) : Int) by omega,
   hex_i kke l hb hl m fu (j + 1) _ (by omega) (by omega) (by simp; omega), drop_cons hj, List.append_assoc]
  rfl
theorem hex_s {R : Type} (kke : List Int → Option R) (l : List Int) (hb : IsBytes l) (hl : l.length ≤ 1000000) : ∀ (m fu j : Nat) (out : List Int), j + m = l.length → m < fu → out.length + 2 * m ≤ 10000000 →
  gq152.l1 kke fu (strL l) (j : Int) out = kke (out ++ hexL (l.drop j))
 | 0, fu + 1, j, out, e, _, _ => by
  simp only [gq152.l1]
  rw [strL_size, decide_f (by omega), cf, List.drop_of_length_le (by omega), hexL, List.append_nil]
 | m + 1, fu + 1, j, out, e, hf, ho => by
  have hj : j < l.length := by omega
  have hx := hb.get hj
  simp only [gq152.l1]
  rw [strL_size, decide_t (by omega), ct, grd_of (gIx_t (by omega) (by omega)), grd_of (gNz_t (by decide)), byteAt_strL hb (by omega) (by omega), Int.toNat_natCast, List.getD_eq_getElem?_getD, List.getElem?_eq_getElem hj, Option.getD_some, tdiv_pos hx.1, tmod_pos hx.1, wr8 (x := l[j] / 16) (by omega) (by omega),
   grd_of (gIx_t (by omega) (by show l[j] / 16 < 16; omega)), grd_of (gIx_t (by omega) (by omega)), grd_of (gNz_t (by decide)), grd_of (gIx_t (by omega) (by show l[j] % 16 < 16; omega)), grd_of (gRm_t (by simp; omega)), wr (by omega) (by omega), show ((j : Int) + 1) = ((j + 1 : Nat) : Int) by omega,
   hex_s kke l hb hl m fu (j + 1) _ (by omega) (by omega) (by simp; omega), drop_cons hj, List.append_assoc]
  rfl
def hexV (s : ByteArray) : ByteArray := strL (hexL (bytesL s))
theorem hexV_i (s : ByteArray) (h : s.size ≤ 1000000) : gq163 s = some (hexV s) := by
 unfold gq163 gq163.F
 have := hex_i (fun out => some (strL out)) (bytesL s) (IsBytes.bytesL s) (by rw [bytesL_length]; exact h) (bytesL s).length fuel 0 [] (by omega) (fuel_big (by rw [bytesL_length]; omega)) (by rw [bytesL_length]; simp; omega)
 rw [Int.natCast_zero, List.drop_zero, List.nil_append, strL_bytesL, bytesL_length] at this
 exact this
theorem hexV_s (s : ByteArray) (h : s.size ≤ 1000000) : gq152 s = some (hexV s) := by
 unfold gq152 gq152.F
 have := hex_s (fun out => some (strL out)) (bytesL s) (IsBytes.bytesL s) (by rw [bytesL_length]; exact h) (bytesL s).length fuel 0 [] (by omega) (fuel_big (by rw [bytesL_length]; omega)) (by rw [bytesL_length]; simp; omega)
 rw [Int.natCast_zero, List.drop_zero, List.nil_append, strL_bytesL] at this
 exact this
theorem hexV_size (s : ByteArray) : (hexV s).size = 2 * s.size := by rw [hexV, strL_size, hexL_len, bytesL_length]
def numL (n : Int) : List Int := if n < 10 then [48 + n] else [48 + n / 10, 48 + n % 10]
theorem num_s (n : Int) (h0 : 0 ≤ n) (h1 : n < 100) : gq151 fuel n = some (strL (numL n)) := by
 obtain ⟨q, hq⟩ : ∃ q, fuel = q + 1 + 1 := ⟨fuel - 2, by rw [fuel_eq]⟩
 have one : ∀ (f : Nat) (d : Int), 0 ≤ d → d < 10 → gq151 (f + 1) d = some (strL [48 + d]) := fun f d k0 k1 => by
  unfold gq151 gq151.F
  rw [show (d == -9223372036854775808) = false by rw [beq_eq_false_iff_ne]; omega, cf, decide_f (by omega), cf, decide_t k1, ct, wr (by omega) (by omega), wr8 (by omega) (by omega)]
 rw [hq]
 unfold numL
 by_cases h : n < 10
 ·rw [if_pos h, one (q + 1) n h0 h]
 ·rw [if_neg h, gq151]
  unfold gq151.F
  rw [show (n == -9223372036854775808) = false by rw [beq_eq_false_iff_ne]; omega, cf, decide_f (by omega), cf, decide_f h, cf, grd_of (gNz_t (by decide)), tdiv_pos h0, tmod_pos h0, wr (x := n / 10) (by omega) (by omega), one q (n / 10) (by omega) (by omega), bs, grd_of (gNz_t (by decide)), wr (by omega) (by omega), wr8 (by omega) (by omega), grd_of (gCat_t (by rw [strL_size, strL_size]; simp)), strL_append]
  rfl
theorem num_i (n : Int) (h0 : 0 ≤ n) (h1 : n < 100) : gq162 n = some (strL (numL n)) := by
 rw [gq162_eq]
 unfold gq162.F
 rw [decide_t h0, decide_t h1, Bool.and_self, grd_t, itoaS_eq]
 congr 1
 apply ba_ext
 rw [strL_list]
 show Lib.decDigits n.toNat = _
 obtain ⟨q, rfl⟩ : ∃ q : Nat, n = q := ⟨n.toNat, by omega⟩
 rw [Int.toNat_natCast]
 unfold numL
 by_cases h : (q : Int) < 10
 ·rw [if_pos h, Lib.decDigits, dif_pos (by omega)]
  simp only [List.map_cons, List.map_nil]
  rw [show ((48 : Int) + (q : Int)).toNat = 48 + q by omega]
 ·rw [if_neg h, Lib.decDigits, dif_neg (by omega), Lib.decDigits, dif_pos (by omega)]
  simp only [List.map_cons, List.map_nil, List.cons_append, List.nil_append]
  rw [show ((48 : Int) + (q : Int) / 10).toNat = 48 + q / 10 by omega, show ((48 : Int) + (q : Int) % 10).toNat = 48 + q % 10 by omega]
theorem numL_len (n : Int) : (numL n).length ≤ 2 := by
 unfold numL
 split <;> simp
def txV (S : Int) (L M : ByteArray) : ByteArray := ((((((⟨#[115, 105, 122, 101, 32]⟩ : ByteArray) ++ strL (numL S)) ++ (⟨#[32, 108, 111, 103, 32]⟩ : ByteArray)) ++ hexV L) ++ (⟨#[32, 109, 97, 112, 32]⟩ : ByteArray)) ++ hexV M)
theorem stm_parts {S : Int} {L M : ByteArray} (h : stmOK S L M = true) : (0 ≤ S ∧ S ≤ 50) ∧ L.size = 32 ∧ M.size = 32 := by
 unfold stmOK at h
 rw [Bool.and_eq_true, Bool.and_eq_true, Bool.and_eq_true, decide_eq_true_iff, decide_eq_true_iff] at h
 exact ⟨h.1, of_decide_eq_true h.2.1, of_decide_eq_true h.2.2⟩
theorem sz5a : ByteArray.size (⟨#[115, 105, 122, 101, 32]⟩ : ByteArray) = 5 := rfl
theorem sz5b : ByteArray.size (⟨#[32, 108, 111, 103, 32]⟩ : ByteArray) = 5 := rfl
theorem sz5c : ByteArray.size (⟨#[32, 109, 97, 112, 32]⟩ : ByteArray) = 5 := rfl
theorem txV_size {S : Int} {L M : ByteArray} (h : stmOK S L M = true) : (txV S L M).size ≤ 200 := by
 obtain ⟨_, hL, hM⟩ := stm_parts h
 have := numL_len S
 unfold txV
 simp only [ByteArray.size_append, strL_size, hexV_size, sz5a, sz5b, sz5c]
 omega
theorem text_i {S : Int} {L M : ByteArray} (h : stmOK S L M = true) : gq73 S L M = some (txV S L M) := by
 obtain ⟨hS, hL, hM⟩ := stm_parts h
 have := numL_len S
 unfold gq73 gq73.F
 rw [num_i S hS.1 (by omega), bs, hexV_i L (by omega), hexV_i M (by omega)]
 simp only [bs]
 have g : ∀ (x y : ByteArray) (z : Option ByteArray), x.size + y.size ≤ 1000 → grd (gCat x y) z = z := fun x y z hh => grd_of (gCat_t (by omega)) z
 rw [g, g, g, g, g]
 ·rfl
 all_goals (simp only [ByteArray.size_append, strL_size, hexV_size, sz5a, sz5b, sz5c]; omega)
theorem text_s {S : Int} {L M : ByteArray} (h : stmOK S L M = true) : gq63 S L M = some (txV S L M) := by
 obtain ⟨hS, hL, hM⟩ := stm_parts h
 have := numL_len S
 unfold gq63 gq63.F
 rw [num_s S hS.1 (by omega), bs, hexV_s L (by omega), hexV_s M (by omega)]
 simp only [bs]
 have g : ∀ (x y : ByteArray) (z : Option ByteArray), x.size + y.size ≤ 1000 → grd (gCat x y) z = z := fun x y z hh => grd_of (gCat_t (by omega)) z
 rw [g, g, g, g, g]
 ·rfl
 all_goals (simp only [ByteArray.size_append, strL_size, hexV_size, sz5a, sz5b, sz5c]; omega)
def halves : List Int → List Int
 | [] => []
 | x :: l => x / 16 :: x % 16 :: halves l
def lack : List Int → Int
 | [] => 0
 | x :: l => (15 - x) + lack l
def dg16 (h : List Int) : List Int := halves (h.take 8)
def dgV (h : List Int) : List Int := dg16 h ++ [lack (dg16 h) / 16, lack (dg16 h) % 16]
theorem halves_len : ∀ l : List Int, (halves l).length = 2 * l.length
 | [] => rfl
 | x :: l => by simp only [halves, List.length_cons, halves_len l]; omega
theorem halves_range : ∀ (l : List Int), IsBytes l → ∀ d ∈ halves l, 0 ≤ d ∧ d ≤ 15
 | [], _, d, h => by simp [halves] at h
 | x :: l, hb, d, h => by
  have hx := hb x (by simp)
  rcases List.mem_cons.1 h with rfl | h
  ·omega
  ·rcases List.mem_cons.1 h with rfl | h
   ·omega
   ·exact halves_range l (fun y hy => hb y (by simp [hy])) d h
theorem lack_range : ∀ (l : List Int), (∀ d ∈ l, 0 ≤ d ∧ d ≤ 15) → 0 ≤ lack l ∧ lack l ≤ 15 * l.length
 | [], _ => by simp [lack]
 | x :: l, h => by
  have hx := h x (by simp)
  have := lack_range l fun d hd => h d (by simp [hd])
  simp only [lack, List.length_cons]
  omega
theorem lack_app (l m : List Int) : lack (l ++ m) = lack l + lack m := by
 induction l with
 | nil => simp [lack]
 | cons x l ih => simp only [List.cons_append, lack, ih]; omega
theorem halves_app (l m : List Int) : halves (l ++ m) = halves l ++ halves m := by
 induction l with
 | nil => rfl
 | cons x l ih => simp only [List.cons_append, halves, ih]
theorem dgl_i {R : Type} (kke : Int → List Int → Option R) (l : List Int) (hb : IsBytes l) (hl : l.length = 32) : ∀ (m fu j : Nat), j + m = 8 → m < fu →
  gq159.l1 kke fu (lack (halves (l.take j))) (strL l) (j : Int) (halves (l.take j)) = kke (lack (dg16 l)) (dg16 l)
 | 0, fu + 1, j, e, _ => by
  obtain rfl : j = 8 := by omega
  simp only [gq159.l1]
  rw [decide_f (by omega), cf]
  rfl
 | m + 1, fu + 1, j, e, hf => by
  have hj : j < l.length := by omega
  have hx := hb.get hj
  have hr := lack_range _ (halves_range (l.take j) (hb.take j))
  rw [halves_len, List.length_take] at hr
  have hln : (halves (l.take j)).length = 2 * j := by rw [halves_len, List.length_take]; omega
  have hstep : halves (l.take (j + 1)) = halves (l.take j) ++ [l[j] / 16, l[j] % 16] := by rw [take_snoc hj, halves_app]; rfl
  simp only [gq159.l1]
  rw [decide_t (by omega), ct, grd_of (gIx_t (by omega) (by rw [strL_size]; omega)), grd_of (gSh_t (by decide)), grd_of (gIx_t (by omega) (by rw [strL_size]; omega)), byteAt_strL hb (by omega) (by omega), Int.toNat_natCast, List.getD_eq_getElem?_getD, List.getElem?_eq_getElem hj, Option.getD_some, hi8 hx.1 hx.2, lo8 hx.1 hx.2,
   wr (x := l[j] / 16) (by omega) (by omega), wr (x := l[j] % 16) (by omega) (by omega), grd_of (gRm_t (by simp [hln]; omega)), wr (x := 30 - l[j] / 16) (by omega) (by omega), wr (x := 30 - l[j] / 16 - l[j] % 16) (by omega) (by omega), wr (x := lack (halves (l.take j)) + _) (by omega) (by omega), wr (by omega) (by omega), show ((j : Int) + 1) = ((j + 1 : Nat) : Int) by omega, ← hstep,
   show lack (halves (l.take j)) + (30 - l[j] / 16 - l[j] % 16) = lack (halves (l.take (j + 1))) by rw [hstep, lack_app]; simp only [lack]; omega]
  exact dgl_i kke l hb hl m fu (j + 1) (by omega) (by omega)
theorem dgl_s {R : Type} (kke : Int → List Int → Option R) (l : List Int) (hb : IsBytes l) (hl : l.length = 32) (s0 : Int) : ∀ (m fu j : Nat), j + m = 8 → m < fu →
  gq147.l1 kke fu (strL l) s0 (j : Int) (halves (l.take j)) = kke s0 (dg16 l)
 | 0, fu + 1, j, e, _ => by
  obtain rfl : j = 8 := by omega
  simp only [gq147.l1]
  rw [decide_f (by omega), cf]
  rfl
 | m + 1, fu + 1, j, e, hf => by
  have hj : j < l.length := by omega
  have hx := hb.get hj
  have hln : (halves (l.take j)).length = 2 * j := by rw [halves_len, List.length_take]; omega
  have hstep : halves (l.take (j + 1)) = halves (l.take j) ++ [l[j] / 16, l[j] % 16] := by rw [take_snoc hj, halves_app]; rfl
  simp only [gq147.l1]
  rw [decide_t (by omega), ct, grd_of (gIx_t (by omega) (by rw [strL_size]; omega)), grd_of (gNz_t (by decide)), grd_of (gIx_t (by omega) (by rw [strL_size]; omega)), grd_of (gNz_t (by decide)), byteAt_strL hb (by omega) (by omega), Int.toNat_natCast, List.getD_eq_getElem?_getD, List.getElem?_eq_getElem hj, Option.getD_some, tdiv_pos hx.1, tmod_pos hx.1,
   wr8 (x := l[j] / 16) (by omega) (by omega), wr (x := l[j] / 16) (by omega) (by omega), wr (x := l[j] % 16) (by omega) (by omega), grd_of (gRm_t (by simp [hln]; omega)), wr (by omega) (by omega), show ((j : Int) + 1) = ((j + 1 : Nat) : Int) by omega, ← hstep]
  exact dgl_s kke l hb hl s0 m fu (j + 1) (by omega) (by omega)
theorem dgs_s {R : Type} (kke : Int → List Int → Option R) (o : List Int) (ho : o.length = 16) (hr : ∀ d ∈ o, 0 ≤ d ∧ d ≤ 15) : ∀ (m fu j : Nat), j + m = 16 → m < fu → gq147.l2 kke fu (lack (o.take j)) (j : Int) o = kke (lack o) o
 | 0, fu + 1, j, e, _ => by
  obtain rfl : j = 16 := by omega
  simp only [gq147.l2]
  rw [decide_f (by omega), cf, List.take_of_length_le (by omega)]
 | m + 1, fu + 1, j, e, hf => by
  have hj : j < o.length := by omega
  have hx := hr o[j] (List.getElem_mem hj)
  have hl := lack_range (o.take j) fun d hd => hr d (List.mem_of_mem_take hd)
  rw [List.length_take] at hl
  simp only [gq147.l2]
  rw [decide_t (by omega), ct, grd_of (gIx_t (by omega) (by omega)), Int.toNat_natCast, rdE_at (k := .int .i64) hj, wr (x := 15 - o[j]) (by omega) (by omega), wr (x := lack (o.take j) + _) (by omega) (by omega), wr (by omega) (by omega), show ((j : Int) + 1) = ((j + 1 : Nat) : Int) by omega,
   show lack (o.take j) + (15 - o[j]) = lack (o.take (j + 1)) by rw [take_snoc hj, lack_app]; simp only [lack]; omega]
  exact dgs_s kke o ho hr m fu (j + 1) (by omega) (by omega)
def hsh (s : ByteArray) : List Int := sha (bytesL s)
theorem dg16_len {l : List Int} (h : l.length = 32) : (dg16 l).length = 16 := by
 unfold dg16
 rw [halves_len, List.length_take]
 omega
theorem digits_i (msg : ByteArray) (h : msg.size ≤ 1000000) : gq159 msg = some (dgV (hsh msg)) := by
 unfold gq159 gq159.F
 have e := hash_i (bytesL msg) (IsBytes.bytesL msg) (by rw [bytesL_length]; omega)
 rw [strL_bytesL] at e
 have hb := sha_bytes (bytesL msg)
 have hl := sha_len (bytesL msg)
 have h16 := dg16_len hl
 have hr := lack_range (dg16 (sha (bytesL msg))) (halves_range _ (hb.take 8))
 rw [h16] at hr
 have := dgl_i (fun sum out => grd (gNz (16 : Int)) <| grd (gNz (16 : Int)) <| grd (gRm (((List.length out) + (List.length [IntKind.wrap .i64 (Int.tdiv sum (16 : Int)), Int.tmod sum (16 : Int)])) * 8)) <| some (out ++ [IntKind.wrap .i64 (Int.tdiv sum (16 : Int)), Int.tmod sum (16 : Int)])) (sha (bytesL msg)) hb hl 8 fuel 0 (by omega) (fuel_big (by decide))
 rw [List.take_zero, Int.natCast_zero] at this
 rw [e, bs]
 refine (show _ = _ from this).trans ?_
 rw [grd_of (gNz_t (by decide)), grd_of (gNz_t (by decide)), grd_of (gRm_t (by simp [h16])), tdiv_pos hr.1, tmod_pos hr.1, wr (by omega) (by omega)]
 rfl
theorem digits_s (msg : ByteArray) (h : msg.size ≤ 1000000) : gq147 msg = some (dgV (hsh msg)) := by
 unfold gq147 gq147.F
 have e := hash_s (bytesL msg) (IsBytes.bytesL msg) (by rw [bytesL_length]; omega)
 have hb := sha_bytes (bytesL msg)
 have hl := sha_len (bytesL msg)
 have h16 := dg16_len hl
 have hr := lack_range (dg16 (sha (bytesL msg))) (halves_range _ (hb.take 8))
 rw [h16] at hr
 have := dgl_s (fun sum out => gq147.l2 (fun sum1 out1 => grd (gNz (16 : Int)) <| grd (gNz (16 : Int)) <| grd (gRm (((List.length out1) + (List.length [IntKind.wrap .i64 (Int.tdiv sum1 (16 : Int)), Int.tmod sum1 (16 : Int)])) * 8)) <| some (out1 ++ [IntKind.wrap .i64 (Int.tdiv sum1 (16 : Int)), Int.tmod sum1 (16 : Int)])) fuel sum (0 : Int) out) (sha (bytesL msg)) hb hl 0 8 fuel 0 (by omega) (fuel_big (by decide))
 rw [List.take_zero, Int.natCast_zero] at this
 rw [e, bs]
 refine (show _ = _ from this).trans ?_
 have h2 := dgs_s (fun sum1 out1 => grd (gNz (16 : Int)) <| grd (gNz (16 : Int)) <| grd (gRm (((List.length out1) + (List.length [IntKind.wrap .i64 (Int.tdiv sum1 (16 : Int)), Int.tmod sum1 (16 : Int)])) * 8)) <| some (out1 ++ [IntKind.wrap .i64 (Int.tdiv sum1 (16 : Int)), Int.tmod sum1 (16 : Int)])) (dg16 (sha (bytesL msg))) h16 (halves_range _ (hb.take 8)) 16 fuel 0 (by omega) (fuel_big (by decide))
 rw [List.take_zero, Int.natCast_zero] at h2
 refine (show _ = _ from h2).trans ?_
 rw [grd_of (gNz_t (by decide)), grd_of (gNz_t (by decide)), grd_of (gRm_t (by simp [h16])), tdiv_pos hr.1, tmod_pos hr.1, wr (by omega) (by omega)]
 rfl
theorem dgV_len (s : ByteArray) : (dgV (hsh s)).length = 18 := by
 unfold dgV hsh
 rw [List.length_append, dg16_len (sha_len _)]
 rfl
theorem dgV_range (s : ByteArray) : ∀ d ∈ dgV (hsh s), 0 ≤ d ∧ d ≤ 15 := by
 have hb := sha_bytes (bytesL s)
 have hh := halves_range _ (hb.take 8)
 have hr := lack_range (dg16 (sha (bytesL s))) hh
 rw [dg16_len (sha_len _)] at hr
 intro d hd
 unfold dgV hsh at hd
 rcases List.mem_append.1 hd with hd | hd
 ·exact hh d hd
 ·simp only [List.mem_cons, List.not_mem_nil, or_false] at hd
  rcases hd with rfl | rfl <;> omega
end Go.Proofs.YtdhifkdijlghdaaGreatDoorA
namespace Go.Proofs.YtdhifkdijlghdaaGreatDoorA
open Go
set_option linter.unusedVariables false
set_option linter.unusedSimpArgs false
def chV : Nat → Int → ByteArray → ByteArray
 | 0, _, h => h
 | m + 1, i, h => chV m (i + 1) (strL (sha (3 :: i :: bytesL h)))
theorem b3 : (⟨#[3]⟩ : ByteArray) = strL [3] := rfl
theorem b5 : (⟨#[5]⟩ : ByteArray) = strL [5] := rfl
theorem step_bytes (i : Int) (h0 : 0 ≤ i) (h1 : i < 256) (h : ByteArray) : IsBytes (3 :: i :: bytesL h) := IsBytes.cons (by decide) (by decide) (IsBytes.cons h0 h1 (IsBytes.bytesL h))
theorem chain_i {R : Type} (kke : ByteArray → Option R) (frm steps : Int) (h0 : 0 ≤ frm) (h1 : frm + steps ≤ 15) : ∀ (m fu : Nat) (i : Int) (h : ByteArray), i + m = frm + steps → m < fu → 0 ≤ i → h.size ≤ 1000000 → gq160.l1 kke fu h frm steps i = kke (chV m i h)
 | 0, fu + 1, i, h, e, _, _, _ => by
  simp only [gq160.l1]
  rw [wr (by omega) (by omega), decide_f (by omega), cf]
  rfl
 | m + 1, fu + 1, i, h, e, hf, hi, hh => by
  have hl : (3 :: i :: bytesL h).length ≤ 1000000000000 := by simp [bytesL_length]; omega
  simp only [gq160.l1]
  rw [wr (x := frm + steps) (by omega) (by omega), decide_t (by omega), ct, number1, bs, beL1, show i % 256 = i by omega, b3, strL_append, grd_of (gCat_t (by rw [strL_size, strL_size]; simp)), grd_of (gCat_t (by rw [strL_size]; simp; omega)),
   show strL ([3] ++ [i]) ++ h = strL (3 :: i :: bytesL h) by rw [← strL_bytesL h, strL_append, bytesL_strL (IsBytes.bytesL h)]; rfl, hash_i _ (step_bytes i hi (by omega) h) hl, bs, wr (by omega) (by omega)]
  exact chain_i kke frm steps h0 h1 m fu (i + 1) _ (by omega) (by omega) (by omega) (by rw [strL_size, sha_len]; decide)
theorem chain_s {R : Type} (kke : ByteArray → Option R) (frm steps : Int) (h0 : 0 ≤ frm) (h1 : frm + steps ≤ 15) : ∀ (m fu : Nat) (j : Int) (h : ByteArray), j + m = steps → m < fu → 0 ≤ j → h.size ≤ 1000000 → gq148.l1 kke fu h frm steps j = kke (chV m (frm + j) h)
 | 0, fu + 1, j, h, e, _, _, _ => by
  simp only [gq148.l1]
  rw [decide_f (by omega), cf]
  rfl
 | m + 1, fu + 1, j, h, e, hf, hj, hh => by
  have hl : (3 :: (frm + j) :: bytesL h).length ≤ 1000000000000 := by simp [bytesL_length]; omega
  simp only [gq148.l1]
  rw [decide_t (by omega), ct, grd_of (gRm_t (by simp [bytesL_length]; omega)), wr (x := frm + j) (by omega) (by omega), wr8 (by omega) (by omega), show ([(3 : Int), frm + j] ++ bytesL h) = 3 :: (frm + j) :: bytesL h from rfl, hash_s _ (step_bytes _ (by omega) (by omega) h) hl, bs, wr (by omega) (by omega)]
  rw [chain_s kke frm steps h0 h1 m fu (j + 1) _ (by omega) (by omega) (by omega) (by rw [strL_size, sha_len]; decide)]
  simp only [chV]
  rw [Int.add_assoc]
theorem chV_size : ∀ (m : Nat) (i : Int) (h : ByteArray), h.size ≤ 32 → (chV m i h).size ≤ 32
 | 0, _, _, hh => hh
 | m + 1, i, h, hh => chV_size m _ _ (by rw [strL_size, sha_len]; decide)
def endV (d : Int) (h : ByteArray) : ByteArray := chV (15 - d).toNat d h
theorem end_i (d : Int) (h0 : 0 ≤ d) (h1 : d ≤ 15) (h : ByteArray) (hh : h.size ≤ 1000000) : gq160 h d (IntKind.wrap .i64 (15 - d)) = some (endV d h) := by
 rw [wr (by omega) (by omega)]
 unfold gq160 gq160.F
 exact chain_i (fun s => some s) d (15 - d) h0 (by omega) (15 - d).toNat fuel d h (by omega) (fuel_big (by omega)) h0 hh
theorem end_s (d : Int) (h0 : 0 ≤ d) (h1 : d ≤ 15) (h : ByteArray) (hh : h.size ≤ 1000000) : gq148 h d (IntKind.wrap .i64 (15 - d)) = some (endV d h) := by
 rw [wr (by omega) (by omega)]
 unfold gq148 gq148.F
 have := chain_s (fun s => some s) d (15 - d) h0 (by omega) (15 - d).toNat fuel 0 h (by omega) (fuel_big (by omega)) (by omega) hh
 rw [Int.add_zero] at this
 exact this
def endsL (l : List ByteArray) : List Int := l.flatMap bytesL
theorem endsL_len : ∀ (l : List ByteArray), (∀ s ∈ l, s.size ≤ 32) → (endsL l).length ≤ 32 * l.length
 | [], _ => by simp [endsL]
 | s :: l, h => by
  have := endsL_len l fun t ht => h t (by simp [ht])
  have h1 := h s (by simp)
  have e : endsL (s :: l) = bytesL s ++ endsL l := rfl
  rw [e, List.length_append, bytesL_length, List.length_cons]
  omega
theorem endsL_bytes : ∀ (l : List ByteArray), IsBytes (endsL l)
 | [] => IsBytes.nil
 | s :: l => (IsBytes.bytesL s).append (endsL_bytes l)
theorem ends_i {R : Type} (kke : ByteArray → Option R) (l : List ByteArray) (hl : l.length ≤ 1000) (hs : ∀ s ∈ l, s.size ≤ 32) : ∀ (m fu j : Nat) (a : List Int), j + m = l.length → m < fu → a.length + 32 * m ≤ 100000 → gq244.l1 kke fu (strL a) l (l.length : Int) (j : Int) = kke (strL (a ++ endsL (l.drop j)))
 | 0, fu + 1, j, a, e, _, _ => by
  simp only [gq244.l1]
  rw [decide_f (by omega), cf, List.drop_of_length_le (by omega)]
  simp [endsL]
 | m + 1, fu + 1, j, a, e, hf, ha => by
  have hj : j < l.length := by omega
  have hx := hs _ (List.getElem_mem hj)
  simp only [gq244.l1]
  rw [decide_t (by omega), ct, grd_of (gIx_t (by omega) (by omega)), Int.toNat_natCast, rdE_at (k := .str) hj, grd_of (gCat_t (by rw [strL_size]; omega)), wr (by omega) (by omega), show ((j : Int) + 1) = ((j + 1 : Nat) : Int) by omega,
   show strL a ++ l[j] = strL (a ++ bytesL l[j]) by rw [← strL_append, strL_bytesL], ends_i kke l hl hs m fu (j + 1) _ (by omega) (by omega) (by rw [List.length_append, bytesL_length]; omega), drop_cons hj, List.append_assoc]
  rfl
theorem ends_s {R : Type} (kke : List Int → Option R) (l : List ByteArray) (hl : l.length ≤ 1000) (hs : ∀ s ∈ l, s.size ≤ 32) : ∀ (m fu j : Nat) (a : List Int), j + m = l.length → m < fu → a.length + 32 * m ≤ 100000 → gq241.l1 kke fu l (j : Int) a = kke (a ++ endsL (l.drop j))
 | 0, fu + 1, j, a, e, _, _ => by
  simp only [gq241.l1]
  rw [decide_f (by omega), cf, List.drop_of_length_le (by omega)]
  simp [endsL]
 | m + 1, fu + 1, j, a, e, hf, ha => by
  have hj : j < l.length := by omega
  have hx := hs _ (List.getElem_mem hj)
  simp only [gq241.l1]
  rw [decide_t (by omega), ct, grd_of (gIx_t (by omega) (by omega)), Int.toNat_natCast, rdE_at (k := .str) hj, grd_of (gRm_t (by rw [bytesL_length]; omega)), wr (by omega) (by omega), show ((j : Int) + 1) = ((j + 1 : Nat) : Int) by omega,
   ends_s kke l hl hs m fu (j + 1) _ (by omega) (by omega) (by rw [List.length_append, bytesL_length]; omega), drop_cons hj, List.append_assoc]
  rfl
def endsV (l : List ByteArray) : ByteArray := strL (sha (5 :: endsL l))
theorem endsV_size (l : List ByteArray) : (endsV l).size = 32 := by rw [endsV, strL_size, sha_len]
theorem endsLeaf_i (l : List ByteArray) (hl : l.length ≤ 1000) (hs : ∀ s ∈ l, s.size ≤ 32) : gq244 l = some (endsV l) := by
 have hn := endsL_len l hs
 unfold gq244 gq244.F
 have := ends_i (fun all => (i_hash all).bind fun r => some r) l hl hs l.length fuel 0 [5] (by omega) (fuel_big (by omega)) (by simp; omega)
 rw [Int.natCast_zero, List.drop_zero] at this
 rw [b5]
 refine (show _ = _ from this).trans ?_
 rw [show ([5] ++ endsL l) = 5 :: endsL l from rfl, hash_i _ (IsBytes.cons (by decide) (by decide) (endsL_bytes l)) (by simp; omega)]
 rfl
theorem endsLeaf_s (l : List ByteArray) (hl : l.length ≤ 1000) (hs : ∀ s ∈ l, s.size ≤ 32) : gq241 l = some (endsV l) := by
 have hn := endsL_len l hs
 unfold gq241 gq241.F
 have := ends_s (fun b => (gq90 b).bind fun r => some r) l hl hs l.length fuel 0 [5] (by omega) (fuel_big (by omega)) (by simp; omega)
 rw [Int.natCast_zero, List.drop_zero] at this
 refine (show _ = _ from this).trans ?_
 rw [show ([5] ++ endsL l) = 5 :: endsL l from rfl, hash_s _ (IsBytes.cons (by decide) (by decide) (endsL_bytes l)) (by simp; omega)]
 rfl
def endsOf (ds : List Int) (ps : List ByteArray) : List ByteArray := List.zipWith endV ds ps
theorem leads_i {R : Type} (kke : ByteArray → Int → List ByteArray → List ByteArray → List ByteArray → Option R) (root : ByteArray) (idx : Int) (ps path : List ByteArray) (ds : List Int) (hd : ∀ d ∈ ds, 0 ≤ d ∧ d ≤ 15) (hl : ds.length = 18) (hp : ps.length = 18) (hs : ∀ s ∈ ps, s.size ≤ 32) :
  ∀ (m fu j : Nat) (e : List ByteArray), j + m = 18 → m < fu → e.length = j → gq183.l1 kke fu root (ds.length : Int) (j : Int) idx ps path e ds = kke root idx ps path (e ++ endsOf (ds.drop j) (ps.drop j))
 | 0, fu + 1, j, e, h, _, he => by
  simp only [gq183.l1]
  rw [decide_f (by omega), cf, List.drop_of_length_le (by omega)]
  simp [endsOf]
 | m + 1, fu + 1, j, e, h, hf, he => by
  have hj : j < ds.length := by omega
  have hk : j < ps.length := by omega
  have hx := hd _ (List.getElem_mem hj)
  have hy := hs _ (List.getElem_mem hk)
  simp only [gq183.l1]
  rw [decide_t (by omega), ct, grd_of (gIx_t (by omega) (by omega)), grd_of (gIx_t (by omega) (by omega)), Int.toNat_natCast, rdE_at (k := .str) hk, rdE_at (k := .int .i64) hj, end_i _ hx.1 hx.2 _ (by omega), bs, grd_of (gRm_t (by simp; omega)), wr (by omega) (by omega), show ((j : Int) + 1) = ((j + 1 : Nat) : Int) by omega,
   leads_i kke root idx ps path ds hd hl hp hs m fu (j + 1) _ (by omega) (by omega) (by simp; omega), drop_cons hj, drop_cons hk, List.append_assoc]
  rfl
theorem leads_s {R : Type} (kke : Int → List ByteArray → List ByteArray → List ByteArray → Option R) (idx : Int) (ps path : List ByteArray) (ds : List Int) (hd : ∀ d ∈ ds, 0 ≤ d ∧ d ≤ 15) (hl : ds.length = 18) (hp : ps.length = 18) (hs : ∀ s ∈ ps, s.size ≤ 32) :
  ∀ (m fu j : Nat) (e : List ByteArray), j + m = 18 → m < fu → e.length = j → gq185.l1 kke fu (j : Int) idx ps path e ds = kke idx ps path (e ++ endsOf (ds.drop j) (ps.drop j))
 | 0, fu + 1, j, e, h, _, he => by
  simp only [gq185.l1]
  rw [decide_f (by omega), cf, List.drop_of_length_le (by omega)]
  simp [endsOf]
 | m + 1, fu + 1, j, e, h, hf, he => by
  have hj : j < ds.length := by omega
  have hk : j < ps.length := by omega
  have hx := hd _ (List.getElem_mem hj)
  have hy := hs _ (List.getElem_mem hk)
  simp only [gq185.l1]
  rw [decide_t (by omega), ct, grd_of (gIx_t (by omega) (by omega)), grd_of (gIx_t (by omega) (by omega)), grd_of (gIx_t (by omega) (by omega)), Int.toNat_natCast, rdE_at (k := .str) hk, rdE_at (k := .int .i64) hj, end_s _ hx.1 hx.2 _ (by omega), bs, grd_of (gRm_t (by simp; omega)), wr (by omega) (by omega), show ((j : Int) + 1) = ((j + 1 : Nat) : Int) by omega,
   leads_s kke idx ps path ds hd hl hp hs m fu (j + 1) _ (by omega) (by omega) (by simp; omega), drop_cons hj, drop_cons hk, List.append_assoc]
  rfl
theorem endsOf_size : ∀ (ds : List Int) (ps : List ByteArray), (∀ s ∈ ps, s.size ≤ 32) → ∀ s ∈ endsOf ds ps, s.size ≤ 32
 | [], ps, _, s, h => by simp [endsOf] at h
 | _ :: _, [], _, s, h => by simp [endsOf] at h
 | d :: ds, p :: ps, hp, s, h => by
  simp only [endsOf, List.zipWith_cons_cons, List.mem_cons] at h
  rcases h with rfl | h
  ·exact chV_size _ _ _ (hp p (by simp))
  ·exact endsOf_size ds ps (fun s hs => hp s (by simp [hs])) s h
def leafOf (msg : ByteArray) (ps : List ByteArray) : ByteArray := endsV (endsOf (dgV (hsh msg)) ps)
theorem leadsTo_eq (idx : Int) (ps path : List ByteArray) (root msg : ByteArray) (hm : msg.size ≤ 1000000) (h0 : 0 ≤ idx) (h1 : idx ≤ 3) (hp : ps.length = 18) (hs : ∀ s ∈ ps, s.size ≤ 32) (hq : Small path) :
  gq183 idx ps path root msg = some (if path.length = (ways 64 idx 4).length then (sEq (foldW (leafOf msg ps) (ways 64 idx 4) path) root, true) else (sEq ByteArray.empty root, false)) ∧
  ∃ own, gq185 msg idx ps path = some (own, decide (path.length = (ways 64 idx 4).length)) ∧ (path.length = (ways 64 idx 4).length → own = foldW (leafOf msg ps) (ways 64 idx 4) path) := by
 have hr := dgV_range msg
 have hl := dgV_len msg
 have hz : (endsOf (dgV (hsh msg)) ps).length ≤ 1000 := by simp [endsOf]; omega
 have hw := endsOf_size (dgV (hsh msg)) ps hs
 constructor
 ·unfold gq183 gq183.F
  rw [digits_i msg hm, bs]
  have := leads_i (fun root1 x x1 x2 ends => (gq244 ends).bind fun r1 => (gq121 r1 x (4 : Int) x2).bind fun r2 => some (sEq r2.1 root1, r2.2.2 == (0 : Int))) root idx ps path (dgV (hsh msg)) hr hl hp hs 18 fuel 0 [] (by omega) (fuel_big (by decide)) rfl
  rw [Int.natCast_zero, List.drop_zero, List.drop_zero, List.nil_append] at this
  refine (show _ = _ from this).trans ?_
  rw [endsLeaf_i _ hz hw, bs, inclusionRoot_i _ idx 4 path (by rw [endsV_size]; decide) hq, if_pos ⟨⟨by decide, by decide⟩, h0, by omega⟩, bs]
  unfold leafOf
  by_cases h3 : path.length = (ways 64 idx 4).length
  ·rw [if_pos h3, if_pos h3]
   rfl
  ·rw [if_neg h3, if_neg h3]
   rfl
 ·obtain ⟨own, i1, i2, i3⟩ := up_s (leafOf msg ps) (by rw [leafOf, endsV_size]; decide) 64 fuel idx 4 path (by decide) (by decide) (fuel_big (by decide)) (by decide) (by omega) (by omega) hq
  refine ⟨own, ?_, i3⟩
  unfold gq185 gq185.F
  rw [digits_s msg hm, bs]
  have := leads_s (fun x x1 x2 ends => (gq241 ends).bind fun r1 => (gq246 fuel r1 x (4 : Int) x2).bind fun r2 => some (r2.1, r2.2)) idx ps path (dgV (hsh msg)) hr hl hp hs 18 fuel 0 [] (by omega) (fuel_big (by decide)) rfl
  rw [Int.natCast_zero, List.drop_zero, List.drop_zero, List.nil_append] at this
  refine (show _ = _ from this).trans ?_
  rw [endsLeaf_s _ hz hw, bs, show endsV (endsOf (dgV (hsh msg)) ps) = leafOf msg ps from rfl, i1, bs]
theorem isList_eq (l : List ByteArray) : gq178 l = some (decide (l.length ≤ 4096)) := by
 unfold gq178 gq178.F
 congr 1
 rw [decide_eq_decide]
 omega
theorem verify_eq (root msg : ByteArray) (idx : Int) (ps path : List ByteArray) (hm : msg.size ≤ 65536) (hp : ps.length ≤ 1048576) (hq : path.length ≤ 1048576) :
  ∃ c, gq99 root msg idx ps path = some c ∧ gq104 root msg idx ps path = some c := by
 unfold gq99 gq99.F gq99.j1 gq99.j2 gq104 gq104.F
 rw [isText_eq [root, msg] (by simp), bs, show [root, msg].all isTx = decide (root.size ≤ 65536) by simp [isTx, hm]]
 simp only [isList_eq, isHash_eq [root] (by simp), isHash_eq ps (show ps.length ≤ 1000000000 by omega), isHash_eq path (show path.length ≤ 1000000000 by omega), l06Hashes_eq ps (show ps.length ≤ 1000000000 by omega), l06Hashes_eq path (show path.length ≤ 1000000000 by omega), bs, show [root].all is32 = is32 root by simp, size32']
 have d0 : decide ((msg.size : Int) > 65536) = false := decide_f (by omega)
 rw [d0]
 by_cases h1 : root.size ≤ 65536
 ·have d1 : decide ((root.size : Int) > 65536) = false := decide_f (by omega)
  rw [decide_t h1, d1]
  by_cases h2 : ps.length ≤ 4096
  ·have d2 : decide ((ps.length : Int) > 4096) = false := decide_f (by omega)
   rw [decide_t h2, d2]
   by_cases h3 : path.length ≤ 4096
   ·have d3 : decide ((path.length : Int) > 4096) = false := decide_f (by omega)
    have hx : decide (mx2 (ps.length : Int) (path.length : Int) > 64) = !(decide (ps.length ≤ 64) && decide (path.length ≤ 64)) := by
     rw [Bool.eq_iff_iff, decide_eq_true_iff, Bool.not_eq_true', Bool.and_eq_false_iff, decide_eq_false_iff_not, decide_eq_false_iff_not]
     unfold mx2
     split <;> omega
    rw [decide_t h3, d3, hx]
    cases hr : is32 root with
    | false => exact ⟨1, rfl, rfl⟩
    | true =>
     by_cases h4 : ps.length ≤ 64
     ·by_cases h5 : path.length ≤ 64
      ·rw [decide_t h4, decide_t h5]
       cases h6 : ps.all is32 with
       | false => exact ⟨1, rfl, rfl⟩
       | true =>
        cases h7 : path.all is32 with
        | false => exact ⟨1, rfl, rfl⟩
        | true =>
         simp only [Bool.not_true, Bool.and_self, cf, within_eq, gq109, gq109.F, l01In_eq, bs]
         by_cases h8 : 0 ≤ idx ∧ idx ≤ 3
         ·rw [decide_t h8.1, decide_t h8.2, Bool.and_self, Bool.not_true, cf, cf]
          by_cases h9 : ps.length = 18
          ·have hps : ∀ s ∈ ps, s.size ≤ 32 := fun s hs => by have := of_decide_eq_true (List.all_eq_true.1 h6 s hs); omega
           have hpa : Small path := ⟨by omega, fun s hs => by have := of_decide_eq_true (List.all_eq_true.1 h7 s hs); omega⟩
           obtain ⟨e1, own, e2, e3⟩ := leadsTo_eq idx ps path root msg (by omega) h8.1 h8.2 h9 hps hpa
           rw [show ((ps.length : Int) != 18) = false by simp [h9], cf, cf, e1, e2, bs, bs]
           by_cases ha : path.length = (ways 64 idx 4).length
           ·rw [if_pos ha, decide_t ha, e3 ha]
            dsimp only
            rw [Bool.not_true, cf]
            cases sEq (foldW (leafOf msg ps) (ways 64 idx 4) path) root
            ·exact ⟨12, rfl, rfl⟩
            ·exact ⟨0, rfl, rfl⟩
           ·rw [if_neg ha, decide_f ha]
            exact ⟨10, rfl, rfl⟩
          ·rw [show ((ps.length : Int) != 18) = true by simp; omega]
           exact ⟨4, rfl, rfl⟩
         ·rw [show (decide (0 ≤ idx) && decide (idx ≤ 3)) = false by rw [← Bool.not_eq_true, Bool.and_eq_true, decide_eq_true_iff, decide_eq_true_iff]; exact h8]
          exact ⟨4, rfl, rfl⟩
      ·rw [decide_t h4, decide_f h5]
       cases ps.all is32 <;> exact ⟨1, rfl, rfl⟩
     ·rw [decide_f h4]
      exact ⟨1, rfl, rfl⟩
   ·have d3 : decide ((path.length : Int) > 4096) = true := decide_t (by omega)
    rw [decide_f h3, d3]
    exact ⟨2, rfl, rfl⟩
  ·have d2 : decide ((ps.length : Int) > 4096) = true := decide_t (by omega)
   rw [decide_f h2, d2]
   exact ⟨2, rfl, rfl⟩
 ·have d1 : decide ((root.size : Int) > 65536) = true := decide_t (by omega)
  rw [decide_f h1, d1]
  exact ⟨2, rfl, rfl⟩
theorem grows_i (ws : Int) (wl wm : ByteArray) (ns : Int) (nl nm : ByteArray) (proof : List ByteArray) (hr : wl.size ≤ 1000000) (hp : Small proof) (h1 : 1 ≤ ws) (h2 : ws ≤ ns) (h3 : ns ≤ 64) :
  gq184 ws wl wm ns nl nm proof = some (if proof.length = grN 64 ws ns true then (cond (sEq (grV wl 64 ws ns true proof).1 wl && sEq (grV wl 64 ws ns true proof).2 nl) 0 19) else 10) := by
 unfold gq184 gq184.F
 rw [growthRoots_i wl hr proof hp ws ns h1 h2 h3, bs]
 by_cases h : proof.length = grN 64 ws ns true
 ·rw [if_pos h, if_pos h]
  dsimp only
  rw [bne_self_eq_false, cf]
  cases sEq (grV wl 64 ws ns true proof).1 wl
  ·rfl
  ·cases sEq (grV wl 64 ws ns true proof).2 nl <;> rfl
 ·rw [if_neg h, if_neg h]
  rfl
theorem advance_eq (K : ByteArray) (H : Bool) (S : Int) (L M : ByteArray) (S' : Int) (L' M' : ByteArray) (idx : Int) (ps path proof : List ByteArray) (hp : ps.length ≤ 1048576) (hq : path.length ≤ 1048576) (ho : proof.length ≤ 1048576) :
  ∃ r, gq32 K H S L M S' L' M' idx ps path proof = some r ∧ gq33 K H S L M S' L' M' idx ps path proof = some r := by
 unfold gq32 gq32.F gq33 gq33.F
 rw [proofCode_nil proof (by omega), bs, trustOK_i, trustOK_s, statementOK_i, statement_s, l06Hashes_eq proof (by omega)]
 simp only [bs]
 by_cases h0 : proof.length > 4096
 ·rw [if_pos h0, decide_t (show (proof.length : Int) > 4096 by omega)]
  exact ⟨_, rfl, rfl⟩
 ·rw [if_neg h0, decide_f (show ¬ (proof.length : Int) > 4096 by omega), cf]
  cases ht : trOK K H S L M with
  | false =>
   cases (decide (proof.length ≤ 64) && proof.all is32) <;> exact ⟨_, rfl, rfl⟩
  | true =>
   rw [Bool.not_true, cf, cf]
   cases hst : stmOK S' L' M' with
   | false =>
    cases (decide (proof.length ≤ 64) && proof.all is32) <;> exact ⟨_, rfl, rfl⟩
   | true =>
    rw [Bool.not_true, cf, cf]
    cases hpr : (decide (proof.length ≤ 64) && proof.all is32) with
    | false => exact ⟨_, rfl, rfl⟩
    | true =>
     obtain ⟨hsm, h64⟩ := small_of (p := proof) hpr
     obtain ⟨hS', hL', hM'⟩ := stm_parts hst
     rw [if_pos rfl, bne_self_eq_false, cf, Bool.not_true, cf, text_i hst, text_s hst, bs, bs]
     have hsz := txV_size hst
     obtain ⟨c, e1, e2⟩ := verify_eq K (txV S' L' M') idx ps path (by omega) hp hq
     rw [e1, e2, bs, bs]
     by_cases hc : c = 0
     ·subst hc
      rw [bne_self_eq_false, cf, cf]
      unfold gq100 gq100.F gq100.j1 gq100.j2 gq100.j3 gq33.j2 gq33.j1 gq33.j3 gq116 gq116.F
      rw [bs]
      dsimp only
      cases H with
      | false =>
       simp only [cf]
       by_cases hz : proof.length = 0
       ·rw [decide_f (by omega), cf]
        exact ⟨_, rfl, rfl⟩
       ·rw [decide_t (by omega), ct]
        exact ⟨_, rfl, rfl⟩
      | true =>
       simp only [ct]
       have ht2 : stmOK S L M = true := by
        unfold trOK at ht
        rw [cond_true, Bool.and_eq_true] at ht
        exact ht.2
       obtain ⟨hS, hL, hM⟩ := stm_parts ht2
       by_cases k1 : S' < S
       ·rw [decide_t k1, ct]
        exact ⟨_, rfl, rfl⟩
       ·rw [decide_f k1, cf]
        by_cases k2 : S' = S
        ·subst k2
         simp only [beq_self_eq_true, ct, Bool.true_and, decide_f (Int.lt_irrefl S'), decide_f (show ¬ S' > S' from Int.lt_irrefl S'), cf]
         cases sEq L' L with
         | false => exact ⟨_, rfl, rfl⟩
         | true =>
          cases sEq M' M with
          | false => exact ⟨_, rfl, rfl⟩
          | true =>
           simp only [Bool.and_self, Bool.not_true, cf]
           have e : ∀ {R : Type} (b : Bool) (x : Option R), cond b x x = x := fun b x => by cases b <;> rfl
           rw [e, e]
           by_cases hz : proof.length = 0
           ·rw [decide_f (by omega), cf]
            exact ⟨_, rfl, rfl⟩
           ·rw [decide_t (by omega), ct]
            exact ⟨_, rfl, rfl⟩
        ·have k3 : S' > S := by omega
         rw [show (S' == S) = false by simpa using k2]
         simp only [cf, decide_t k3]
         by_cases k4 : S > 0
         ·rw [decide_t k4, ct, ct]
          obtain ⟨a, b, i1, i2, i3, i4⟩ := grow_s L (by omega) 64 fuel S S' true proof (by omega) (by omega) (by omega) (fuel_big (by decide)) (by decide) hsm
          rw [grows_i S L M S' L' M' proof (by omega) hsm (by omega) (by omega) (by omega), bs, i1]
          simp only [ct, bs]
          by_cases k5 : proof.length = grN 64 S S' true
          ·have hab := i4 k5
           rw [if_pos k5, decide_t k5, ← hab]
           dsimp only
           rw [Bool.not_true, cf]
           cases sEq a L with
           | false => exact ⟨_, rfl, rfl⟩
           | true => cases sEq b L' <;> exact ⟨_, rfl, rfl⟩
          ·rw [if_neg k5, decide_f k5]
           exact ⟨_, rfl, rfl⟩
         ·rw [decide_f k4, cf, cf]
          by_cases hz : proof.length = 0
          ·rw [decide_f (by omega), cf]
           exact ⟨_, rfl, rfl⟩
          ·rw [decide_t (by omega), ct]
           exact ⟨_, rfl, rfl⟩
     ·rw [show (c != 0) = true by simpa using hc]
      exact ⟨_, rfl, rfl⟩
end Go.Proofs.YtdhifkdijlghdaaGreatDoorA
namespace Go.Proofs.YtdhifkdijlghdaaGreatDoorA
open Go
set_option linter.unusedVariables false
set_option linter.unusedSimpArgs false
def All32 (l : List ByteArray) : Prop := ∀ s ∈ l, s.size = 32
theorem All32.app {l m : List ByteArray} (h : All32 l) (h' : All32 m) : All32 (l ++ m) := fun s hs => (List.mem_append.1 hs).elim (h s) (h' s)
theorem All32.sub {l : List ByteArray} (h : All32 l) (a b : Int) : All32 (sub l a b) := fun s hs => h s (List.mem_of_mem_take (List.mem_of_mem_drop hs))
theorem All32.one {s : ByteArray} (h : s.size = 32) : All32 [s] := fun t ht => by simp at ht; rw [ht]; exact h
theorem leaves1 {R : Type} (kke : List Int → Int → Int → List ByteArray → Option R) (c : List Int) : ∀ (m fu : Nat) (i a s N : Int) (out : List ByteArray), SrcOK c a s N → N + 3 * m ≤ 1000000 → i ≤ m → m < fu → All32 out → out.length + m ≤ 1000 →
  ∃ a' s' out', gq85.l1 kke fu i c a s out = kke c a' s' out' ∧ SrcOK c a' s' (N + 3 * m) ∧ All32 out' ∧ out'.length ≤ out.length + m := by
 intro m
 induction m with
 | zero =>
  intro fu i a s N out h hN hi hf ho hl
  obtain ⟨fu, rfl⟩ : ∃ q, fu = q + 1 := ⟨fu - 1, by omega⟩
  simp only [gq85.l1]
  rw [decide_f (by omega), cf]
  exact ⟨a, s, out, rfl, h.mono (by omega) (by omega), ho, by omega⟩
 | succ m ih =>
  intro fu i a s N out h hN hi hf ho hl
  obtain ⟨fu, rfl⟩ : ∃ q, fu = q + 1 := ⟨fu - 1, by omega⟩
  by_cases h0 : i > 0
  ·obtain ⟨v, a1, s1, e1, hv, h1⟩ := next_eq h (by omega) 3 (by decide) (by decide)
   simp only [gq85.l1]
   rw [decide_t h0, ct, e1, bs]
   dsimp only
   rw [leaf_s _ (by rw [strL_size]; simp), bs, grd_of (gRm_t (by simp; omega)), wr (by have := h.a0; omega) (by omega)]
   obtain ⟨a', s', out', e2, h2, h3, h4⟩ := ih fu (i - 1) a1 s1 (N + 3) (out ++ [leafV (strL [IntKind.wrap .u8 i, IntKind.wrap .u8 v])]) h1 (by omega) (by omega) (by omega) (ho.app (All32.one (leafV_size _))) (by simp; omega)
   refine ⟨a', s', out', e2, h2.mono (by omega) (by omega), h3, ?_⟩
   rw [List.length_append, List.length_singleton] at h4
   omega
  ·simp only [gq85.l1]
   rw [decide_f h0, cf]
   exact ⟨a, s, out, rfl, h.mono (by omega) (by omega), ho, by omega⟩
theorem leaves2 {R : Type} (kke : List Int → Int → Int → List ByteArray → Option R) (c : List Int) : ∀ (fu m : Nat) (a s N : Int) (out : List ByteArray), SrcOK c a s N → N + 3 * m + 3 ≤ 1000000 → 65 ≤ out.length + m → m < fu → All32 out → out.length ≤ 65 →
  ∃ a' s' out', gq85.l2 kke fu c a s out = kke c a' s' out' ∧ All32 out' ∧ out'.length ≤ 65 := by
 intro fu
 induction fu with
 | zero => intro m a s N out h hN hi hf; omega
 | succ fu ih =>
  intro m a s N out h hN hi hf ho hl
  obtain ⟨v, a1, s1, e1, hv, h1⟩ := next_eq h (by omega) 2 (by decide) (by decide)
  simp only [gq85.l2]
  rw [e1, bs]
  dsimp only
  rw [wr (by omega) (by omega)]
  by_cases h0 : (out.length : Int) < 64 + v
  ·rw [decide_t h0, ct]
   by_cases hz : out = []
   ·subst hz
    simp only [List.length_nil] at hi
    have e0 : mn2 (1 : Int) ((List.length ([] : List ByteArray)) : Int) = 0 := rfl
    rw [e0, show sub ([] : List ByteArray) 0 0 = [] from rfl, grd_of (gSl_t (by decide) (by decide) (by decide)), grd_of (gRm_t (by decide))]
    rw [show ((List.length (([] : List ByteArray) ++ []) : Int) == 0) = true from rfl, ct, leaf_s _ (by decide), bs, grd_of (gRm_t (by decide))]
    exact ih (m - 1) a1 s1 (N + 3) (([] ++ []) ++ [leafV ByteArray.empty]) h1 (by omega) (by simp; omega) (by omega) (fun t ht => by simp at ht; rw [ht]; exact leafV_size _) (by simp)
   ·have hp : 0 < out.length := List.length_pos_iff.2 hz
    have e0 : mn2 (1 : Int) (out.length : Int) = 1 := by unfold mn2; rw [if_neg (by omega)]
    have hs := sub_length out (a := 0) (b := 1) (by decide) (by decide) (by omega)
    rw [e0, grd_of (gSl_t (by decide) (by decide) (by omega)), grd_of (gRm_t (by omega)), show ((List.length (out ++ sub out 0 1) : Int) == 0) = false by rw [List.length_append, beq_eq_false_iff_ne]; omega, cf]
    exact ih (m - 1) a1 s1 (N + 3) (out ++ sub out 0 1) h1 (by omega) (by rw [List.length_append]; omega) (by omega) (ho.app (ho.sub _ _)) (by rw [List.length_append]; omega)
  ·rw [decide_f h0, cf]
   exact ⟨a1, s1, out, rfl, ho, hl⟩
theorem leavesOf_eq (c : List Int) (hb : IsBytes c) (hl : c.length ≤ 1048576) : ∃ l, gq22 c = some l ∧ All32 l ∧ l.length ≤ 40 := by
 unfold gq22 gq22.F gq85 gq85.F
 obtain ⟨s0, e0, h0⟩ := source_eq c hb hl
 obtain ⟨v1, a1, s1, e1, hv1, h1⟩ := next_eq h0 (by decide) 3 (by decide) (by decide)
 have hsel : (1 : Int) < rdE (.int .i64 : Kd) [(4 : Int), (10 : Int), (20 : Int)] v1.toNat ∧ rdE (.int .i64 : Kd) [(4 : Int), (10 : Int), (20 : Int)] v1.toNat ≤ (20 : Int) := by
  rcases (show v1 = 0 ∨ v1 = 1 ∨ v1 = 2 by omega) with rfl | rfl | rfl <;> exact ⟨by decide, by decide⟩
 obtain ⟨v2, a2, s2, e2, hv2, h2⟩ := next_eq h1 (by decide) _ hsel.1 (Int.le_trans hsel.2 (by decide))
 have hv20 : v2 ≤ 20 := Int.le_trans (Int.le_of_lt hv2.2) hsel.2
 rw [e0, bs]
 dsimp only
 rw [e1, bs]
 dsimp only
 rw [grd_of (gIx_t hv1.1 (by simpa using hv1.2)), e2, bs]
 dsimp only
 have fin : ∀ (l : List ByteArray) (a s : Int), All32 l → l.length ≤ 65 → ∃ r, (some (l, c, a, s)).bind (fun r1 => grd (gSl (0 : Int) (mn2 (40 : Int) (List.length r1.1 : Int)) (List.length r1.1)) <| some (sub r1.1 (0 : Int) (mn2 (40 : Int) (List.length r1.1 : Int)))) = some r ∧ All32 r ∧ r.length ≤ 40 := by
  intro l a s h hl
  rw [bs]
  dsimp only
  have hm : 0 ≤ mn2 (40 : Int) (l.length : Int) ∧ mn2 (40 : Int) (l.length : Int) ≤ l.length ∧ mn2 (40 : Int) (l.length : Int) ≤ 40 := by unfold mn2; split <;> omega
  have hs := sub_length l (a := 0) (b := mn2 (40 : Int) (l.length : Int)) (by decide) hm.1 hm.2.1
  rw [grd_of (gSl_t (by decide) hm.1 hm.2.1)]
  exact ⟨_, rfl, h.sub _ _, by omega⟩
 obtain ⟨a3, s3, out3, e3, h3, h4, h5⟩ := leaves1 (fun s s1 s2 out => (gq172 s s1 s2 (40 : Int)).bind fun r2 => cond (r2.1) (gq85.l2 (fun s3 s4 s5 out1 => some (out1, s3, s4, s5)) fuel r2.2.1 r2.2.2.1 r2.2.2.2 out) (some (out, r2.2.1, r2.2.2.1, r2.2.2.2))) c 20 fuel v2 a2 s2 _ [] h2 (by decide) (by omega) (fuel_big (by decide)) (fun t ht => by simp at ht) (by simp)
 rw [e3]
 obtain ⟨b, a4, s4, e4, h6⟩ := chance_eq h3 (by decide) 40 (by decide) (by decide)
 rw [e4, bs]
 dsimp only
 simp only [List.length_nil] at h5
 cases b with
 | false => exact fin out3 a4 s4 h4 (by omega)
 | true =>
  obtain ⟨a5, s5, out5, e5, h7, h8⟩ := leaves2 (fun s3 s4 s5 out1 => some (out1, s3, s4, s5)) c fuel 65 a4 s4 _ out3 h6 (by decide) (by omega) (fuel_big (by decide)) h4 (by omega)
  rw [ct, e5]
  exact fin out5 a5 s5 h7 h8
theorem hashOf_eq (c : List Int) (hb : IsBytes c) (hl : c.length ≤ 1048576) : ∃ h, gq23 c = some h ∧ h.size = 32 := by
 unfold gq23 gq23.F gq86 gq86.F
 obtain ⟨s0, e0, h0⟩ := source_eq c hb hl
 obtain ⟨v1, a1, s1, e1, hv1, h1⟩ := next_eq h0 (by decide) 256 (by decide) (by decide)
 obtain ⟨v2, a2, s2, e2, hv2, h2⟩ := next_eq h1 (by decide) 4 (by decide) (by decide)
 rw [e0, bs]
 dsimp only
 rw [e1, bs]
 dsimp only
 rw [e2, bs]
 dsimp only
 rw [wr8 hv1.1 hv1.2, wr8 hv2.1 (by omega), hash_s _ (IsBytes.cons hv1.1 hv1.2 (IsBytes.cons hv2.1 (by omega) IsBytes.nil)) (by simp), bs, bs]
 exact ⟨_, rfl, by rw [strL_size, sha_len]⟩
theorem at_eq (more : List Int) (hb : IsBytes more) (hl : more.length ≤ 1048576) (i n : Int) (h0 : 0 ≤ i) (h1 : i ≤ 1000) (hn : 1 ≤ n) (hn1 : n ≤ 1000000) : ∃ r, l_at more i n = some r ∧ 0 ≤ r ∧ r < n := by
 unfold l_at l_at.F
 by_cases h2 : n ≤ 1
 ·rw [decide_t h2, ct]
  exact ⟨0, rfl, by omega, by omega⟩
 ·rw [decide_f h2, cf]
  by_cases h3 : more.length = 0
  ·rw [show ((more.length : Int) == 0) = true by simp [h3], ct, grd_of (gNz_t (by omega)), wr (by omega) (by omega), tmod_pos (by omega)]
   exact ⟨_, rfl, Int.emod_nonneg _ (by omega), Int.emod_lt_of_pos _ (by omega)⟩
  ·have hL : (0 : Int) < more.length := by omega
   have g : ∀ x : Int, 0 ≤ x → 0 ≤ x % more.length ∧ x % more.length < more.length := fun x hx => ⟨Int.emod_nonneg _ (by omega), Int.emod_lt_of_pos _ hL⟩
   have g1 := g i h0
   have g2 := g (i + 1) (by omega)
   have b : ∀ x : Int, 0 ≤ x → x < more.length → (0 : Int) ≤ rdE (.int .u8 : Kd) more x.toNat ∧ rdE (.int .u8 : Kd) more x.toNat < (256 : Int) := fun x hx hx' => by
    rw [rdE_at (k := .int .u8) (show x.toNat < more.length by omega)]
    exact hb.get (by omega)
   have b1 := b _ g1.1 g1.2
   have b2 := b _ g2.1 g2.2
   have hd : 0 ≤ i / (more.length : Int) ∧ i / (more.length : Int) ≤ 1000 := ⟨Int.ediv_nonneg h0 (by omega), Int.le_trans (Int.ediv_le_self _ h0) h1⟩
   rw [show ((more.length : Int) == 0) = false by simp; intro h; exact h3 (by rw [h]; rfl), cf, wr (x := i + 1) (by omega) (by omega), tmod_pos h0, tmod_pos (show 0 ≤ i + 1 by omega), tdiv_pos h0, grd_of (gNz_t (by omega)), grd_of (gIx_t g1.1 g1.2), grd_of (gNz_t (by omega)), grd_of (gIx_t g2.1 g2.2), grd_of (gNz_t (by omega)), grd_of (gNz_t (by omega))]
   have key : ∀ u w d : Int, (0 ≤ u ∧ u < 256) → (0 ≤ w ∧ w < 256) → (0 ≤ d ∧ d ≤ 1000) → ∃ r, some (Int.tmod (IntKind.wrap .i64 ((IntKind.wrap .i64 ((IntKind.wrap .i64 ((IntKind.wrap .i64 u) * (31 : Int))) + (IntKind.wrap .i64 w))) + (IntKind.wrap .i64 d))) n) = some r ∧ 0 ≤ r ∧ r < n := by
    intro u w d hu hw hd
    rw [wr (x := u) (by omega) (by omega), wr (x := u * 31) (by omega) (by omega), wr (x := w) (by omega) (by omega), wr (x := u * 31 + w) (by omega) (by omega), wr (x := d) (by omega) (by omega), wr (x := u * 31 + w + d) (by omega) (by omega), tmod_pos (by omega)]
    exact ⟨_, rfl, Int.emod_nonneg _ (by omega), Int.emod_lt_of_pos _ (by omega)⟩
   exact key _ _ _ b1 b2 hd
theorem tree_ok : ∀ (m fu : Nat) (l : List ByteArray), l.length ≤ m → m < fu → m ≤ 1000 → 1 ≤ l.length → All32 l → ∃ v, gq87 fu l = some v ∧ v.size = 32
 | 0, fu + 1, l, h, _, _, h1, _ => by omega
 | m + 1, fu + 1, l, h, hf, hm, h1, ha => by
  unfold gq87 gq87.F
  rw [show ((l.length : Int) == 0) = false by rw [beq_eq_false_iff_ne]; omega, cf]
  by_cases h2 : l.length = 1
  ·rw [show ((l.length : Int) == 1) = true by simp [h2], ct, grd_of (gIx_t (by decide) (by omega)), show (0 : Int).toNat = 0 from rfl, rdE_at (k := .str) (show 0 < List.length (α := ByteArray) l by omega)]
   exact ⟨_, rfl, ha _ (List.getElem_mem _)⟩
  ·obtain ⟨_, e1, e3, e4⟩ := half_eq (l.length : Int) (by omega) (by omega)
   have l1 := sub_length l (a := 0) (b := half (l.length : Int)) (by decide) (by omega) (by omega)
   have l2 := sub_length l (a := half (l.length : Int)) (b := (l.length : Int)) (by omega) (by omega) (by omega)
   obtain ⟨v1, f1, k1⟩ := tree_ok m fu (sub l 0 (half (l.length : Int))) (by omega) (by omega) (by omega) (by omega) (ha.sub _ _)
   obtain ⟨v2, f2, k2⟩ := tree_ok m fu (sub l (half (l.length : Int)) (l.length : Int)) (by omega) (by omega) (by omega) (by omega) (ha.sub _ _)
   rw [show ((l.length : Int) == 1) = false by rw [beq_eq_false_iff_ne]; omega, cf, e1, bs, grd_of (gSl_t (by decide) (by omega) (by omega)), f1, bs, grd_of (gSl_t (by omega) (by omega) (by omega)), f2, bs, node_s _ _ (by omega) (by omega), bs]
   exact ⟨_, rfl, nodeV_size _ _⟩
theorem path_ok : ∀ (m fu : Nat) (l : List ByteArray) (at_ : Int), l.length ≤ m → m < fu → m ≤ 1000 → 0 ≤ at_ → at_ < l.length → All32 l → ∃ p, gq150 fu l at_ = some p ∧ All32 p ∧ p.length = (ways m at_ (l.length : Int)).length ∧ p.length ≤ m
 | 0, fu + 1, l, at_, h, _, _, h0, h1, _ => by omega
 | m + 1, fu + 1, l, at_, h, hf, hm, h0, h1, ha => by
  unfold gq150 gq150.F
  by_cases h2 : l.length = 1
  ·rw [show ((l.length : Int) == 1) = true by simp [h2], ct]
   refine ⟨[], rfl, fun s hs => by simp at hs, ?_, by simp⟩
   unfold ways
   rw [if_pos (by omega)]
   rfl
  ·obtain ⟨_, e1, e3, e4⟩ := half_eq (l.length : Int) (by omega) (by omega)
   have l1 := sub_length l (a := 0) (b := half (l.length : Int)) (by decide) (by omega) (by omega)
   have l2 := sub_length l (a := half (l.length : Int)) (b := (l.length : Int)) (by omega) (by omega) (by omega)
   obtain ⟨v1, f1, k1⟩ := tree_ok 1000 fuel (sub l 0 (half (l.length : Int))) (by omega) (fuel_big (by decide)) (by omega) (by omega) (ha.sub _ _)
   obtain ⟨v2, f2, k2⟩ := tree_ok 1000 fuel (sub l (half (l.length : Int)) (l.length : Int)) (by omega) (fuel_big (by decide)) (by omega) (by omega) (ha.sub _ _)
   rw [show ((l.length : Int) == 1) = false by rw [beq_eq_false_iff_ne]; omega, cf, e1, bs]
   unfold ways
   rw [if_neg (by omega)]
   by_cases h3 : at_ < half (l.length : Int)
   ·obtain ⟨p, f3, k3, k4, k5⟩ := path_ok m fu (sub l 0 (half (l.length : Int))) at_ (by omega) (by omega) (by omega) h0 (by omega) (ha.sub _ _)
    rw [decide_t h3, ct, grd_of (gSl_t (by decide) (by omega) (by omega)), f3, bs, grd_of (gSl_t (by omega) (by omega) (by omega)), f2, bs, grd_of (gRm_t (by simp; omega)), if_pos h3]
    refine ⟨_, rfl, k3.app (All32.one k2), ?_, by simp; omega⟩
    rw [l1, show half (l.length : Int) - 0 = half (l.length : Int) by omega] at k4
    rw [List.length_append, List.length_append, k4]
    rfl
   ·obtain ⟨p, f3, k3, k4, k5⟩ := path_ok m fu (sub l (half (l.length : Int)) (l.length : Int)) (at_ - half (l.length : Int)) (by omega) (by omega) (by omega) (by omega) (by omega) (ha.sub _ _)
    rw [decide_f h3, cf, wr (by omega) (by omega), grd_of (gSl_t (by omega) (by omega) (by omega)), f3, bs, grd_of (gSl_t (by decide) (by omega) (by omega)), f1, bs, grd_of (gRm_t (by simp; omega)), if_neg h3]
    refine ⟨_, rfl, k3.app (All32.one k1), ?_, by simp; omega⟩
    rw [l2] at k4
    rw [List.length_append, List.length_append, k4]
    rfl
theorem all32_all {l : List ByteArray} (h : All32 l) : l.all is32 = true := List.all_eq_true.2 fun s hs => decide_eq_true (h s hs)
def nl (d : Bool) (x p : ByteArray) : List Int := if d then nodeL x p else nodeL p x
end Go.Proofs.YtdhifkdijlghdaaGreatDoorA
namespace Go.Proofs.YtdhifkdijlghdaaGreatDoorA
open Go
set_option linter.unusedVariables false
set_option linter.unusedSimpArgs false
theorem ixb_some (s : ByteArray) (c : Int) : gq190 s c = some (ixbS s c) := (gq190_eq s c).trans rfl
theorem ixb_hx (a : Int) (h0 : 0 ≤ a) (h1 : a < 16) : ixbS hxD (byteAt hxD a) = a := by
 rw [ixbS_eq]
 have : ∀ n ∈ List.range 16, Lib.indexByte hxD.data.toList (byteAt hxD (n : Nat)).toNat.toUInt8 = ((n : Nat) : Int) := by decide
 have := this a.toNat (List.mem_range.2 (by omega))
 rwa [Int.toNat_of_nonneg h0] at this
noncomputable def hvI (x y : Int) : Int := IntKind.wrap .u8 (IntKind.wrap .i64 (iShl .i64 (ixbS hxD x) 4 + ixbS hxD y))
noncomputable def rhL : List Int → List Int
 | x :: y :: l => hvI x y :: rhL l
 | _ => []
theorem hvI_hx (a : Int) (h0 : 0 ≤ a) (h1 : a < 256) : hvI (byteAt hxD (a / 16)) (byteAt hxD (a % 16)) = a := by
 unfold hvI
 rw [ixb_hx (a / 16) (by omega) (by omega), ixb_hx (a % 16) (by omega) (by omega), shl_eq (by decide) (by decide), show (2 : Int) ^ (4 : Int).toNat = 16 from rfl, wr (x := a / 16 * 16) (by omega) (by omega), wr (by omega) (by omega), wr8 (by omega) (by omega)]
 omega
theorem rhL_hex : ∀ l : List Int, IsBytes l → rhL (hexL l) = l
 | [], _ => rfl
 | x :: l, h => by
  simp only [hexL, rhL]
  rw [hvI_hx x (h x (by simp)).1 (h x (by simp)).2, rhL_hex l (fun y hy => h y (by simp [hy]))]
theorem rhash_l1 {R : Type} (kke : List Int → Option R) (l : List Int) (hb : IsBytes l) (hl : l.length ≤ 1000) : ∀ (m fu j : Nat) (out : List Int), j + 2 * m = l.length → m < fu → out.length + m ≤ 1000 →
  gq108.l1 kke fu (strL l) (j : Int) out = kke (out ++ rhL (l.drop j))
 | 0, fu + 1, j, out, e, _, _ => by
  simp only [gq108.l1]
  rw [strL_size, decide_f (by omega), cf, List.drop_of_length_le (by omega), show rhL [] = [] from rfl, List.append_nil]
 | m + 1, fu + 1, j, out, e, hf, ho => by
  have hj : j < l.length := by omega
  have hj' : j + 1 < l.length := by omega
  simp only [gq108.l1]
  rw [strL_size, decide_t (by omega), ct, grd_of (gIx_t (by omega) (by omega)), ixb_some, bs, grd_of (gSh_t (by decide)), wr (x := (j : Int) + 1) (by omega) (by omega), grd_of (gIx_t (by omega) (by omega)), ixb_some, bs, grd_of (gRm_t (by simp; omega)), wr (x := (j : Int) + 2) (by omega) (by omega),
   show ((j : Int) + 2) = ((j + 2 : Nat) : Int) by omega, rhash_l1 kke l hb hl m fu (j + 2) _ (by omega) (by omega) (by simp; omega), drop_cons hj, drop_cons hj', List.append_assoc,
   byteAt_strL hb (by omega) (by omega), byteAt_strL hb (by omega) (by omega), Int.toNat_natCast, show ((j : Int) + 1).toNat = j + 1 by omega, List.getD_eq_getElem?_getD, List.getElem?_eq_getElem hj, List.getD_eq_getElem?_getD, List.getElem?_eq_getElem hj']
  rfl
theorem trim_hx (t : ByteArray) (ht : t.size ≤ 1000) : gq189 t hxD = some (trimS t hxD) := by
 rw [gq189_eq]
 unfold gq189.F
 rw [gTrim_eq, decide_t (show t.size ≤ 9223372036854775807 by omega)]
 rfl
theorem trimS_all (l cs : List UInt8) (h : ∀ b ∈ l, cs.contains b = true) : Lib.trimS l cs = [] := by
 unfold Lib.trimS
 rw [Lib.trimRightS_take l cs 0 (Nat.zero_le _) (fun j b _ hb => h b (List.mem_of_getElem? hb)) (fun b hb => absurd hb (by decide)), List.take_zero]
 rfl
theorem hx_mem (a : Int) (h0 : 0 ≤ a) (h1 : a < 16) : hxD.data.toList.contains (UInt8.ofNat (byteAt hxD a).toNat) = true := by
 have : ∀ n ∈ List.range 16, hxD.data.toList.contains (UInt8.ofNat (byteAt hxD (n : Nat)).toNat) = true := by decide
 have := this a.toNat (List.mem_range.2 (by omega))
 rwa [Int.toNat_of_nonneg h0] at this
theorem hexL_bytes : ∀ l : List Int, IsBytes (hexL l)
 | [] => IsBytes.nil
 | x :: l => IsBytes.cons (hxD_byte _).1 (hxD_byte _).2 (IsBytes.cons (hxD_byte _).1 (hxD_byte _).2 (hexL_bytes l))
theorem hexL_mem : ∀ l : List Int, IsBytes l → ∀ y ∈ hexL l, ∃ a : Int, 0 ≤ a ∧ a < 16 ∧ y = byteAt hxD a
 | [], _, y, hy => by simp [hexL] at hy
 | x :: l, h, y, hy => by
  have hx := h x (by simp)
  simp only [hexL, List.mem_cons] at hy
  rcases hy with rfl | rfl | hy
  ·exact ⟨x / 16, by omega, by omega, rfl⟩
  ·exact ⟨x % 16, by omega, by omega, rfl⟩
  ·exact hexL_mem l (fun z hz => h z (by simp [hz])) y hy
theorem readHash_hex (L : ByteArray) (h : L.size = 32) : gq108 (hexV L) = some (L, true) := by
 unfold gq108 gq108.F
 rw [show (((hexV L).size : Int) != 64) = false by rw [hexV_size, h]; rfl, cf, show (⟨#[48, 49, 50, 51, 52, 53, 54, 55, 56, 57, 97, 98, 99, 100, 101, 102]⟩ : ByteArray) = hxD from rfl, trim_hx _ (by rw [hexV_size]; omega), bs, trimS_eq]
 have e : Lib.trimS (hexV L).data.toList hxD.data.toList = [] := by
  refine trimS_all _ _ fun b hb => ?_
  rw [hexV, strL_list, List.mem_map] at hb
  obtain ⟨y, hy, rfl⟩ := hb
  obtain ⟨a, h0, h1, rfl⟩ := hexL_mem _ (IsBytes.bytesL L) y hy
  exact hx_mem a h0 h1
 rw [e, show sEq (⟨([] : List UInt8).toArray⟩ : ByteArray) ByteArray.empty = true from sEq_self _, Bool.not_true, cf]
 have hlen : (hexL (bytesL L)).length = 64 := by rw [hexL_len, bytesL_length]; omega
 have := rhash_l1 (fun out => some (strL out, true)) (hexL (bytesL L)) (hexL_bytes _) (by omega) 32 fuel 0 [] (by omega) (fuel_big (by decide)) (by simp)
 rw [Int.natCast_zero, List.drop_zero, List.nil_append, rhL_hex _ (IsBytes.bytesL L), strL_bytesL] at this
 exact this
def spB : ByteArray := ⟨#[32]⟩
theorem split_some (s : ByteArray) (h : s.size < 4294967281) : gq106 s spB = some (splS s spB) := by
 rw [gq106_eq]
 unfold gq106.F
 rw [gSpl_eq, decide_t h]
 rfl
theorem index_word : ∀ (w r : List UInt8), (∀ x ∈ w, x ≠ 32) → Lib.indexByte (w ++ 32 :: r) 32 = w.length
 | [], r, _ => rfl
 | a :: w, r, h => by
  rw [List.cons_append, Lib.indexByte, index_word w r (fun x hx => h x (by simp [hx])), if_neg (by simpa using h a (by simp)), if_neg (by simp; try omega), List.length_cons]
  omega
theorem index_no : ∀ (w : List UInt8), (∀ x ∈ w, x ≠ 32) → Lib.indexByte w 32 = -1
 | [], _ => rfl
 | a :: w, h => by
  rw [Lib.indexByte, index_no w (fun x hx => h x (by simp [hx])), if_neg (by simpa using h a (by simp))]
  rfl
theorem u8_32 {l : List Int} (hb : IsBytes l) (h : ∀ x ∈ l, x ≠ 32) : ∀ x ∈ l.map (fun n => UInt8.ofNat n.toNat), x ≠ 32 := by
 intro x hx
 rw [List.mem_map] at hx
 obtain ⟨y, hy, rfl⟩ := hx
 have h1 := hb y hy
 have h2 := h y hy
 intro e
 have := congrArg UInt8.toNat e
 rw [UInt8.toNat_ofNat'] at this
 have e2 : (32 : UInt8).toNat = 32 := rfl
 rw [e2] at this
 omega
theorem split_word (w r : List Int) (hw : IsBytes w) (h : ∀ x ∈ w, x ≠ 32) : splS (strL (w ++ 32 :: r)) spB = strL w :: splS (strL r) spB := by
 rw [splS_eq, splS_eq]
 have e : (strL (w ++ 32 :: r)).data.toList = w.map (fun n => UInt8.ofNat n.toNat) ++ 32 :: r.map (fun n => UInt8.ofNat n.toNat) := by
  rw [strL_list, List.map_append, List.map_cons]; rfl
 have hi : Lib.indexB (strL (w ++ 32 :: r)) spB = (w.length : Nat) := by
  show Lib.index _ [32] = _
  rw [Lib.index_one, e, index_word _ _ (u8_32 hw h), List.length_map]
 have hx : (strL (w ++ 32 :: r)).extract (w.length + spB.size) (strL (w ++ 32 :: r)).size = strL r := by
  apply ba_ext
  rw [Lib.extract_to_end, e, strL_list, show spB.size = 1 from rfl, List.drop_append, List.drop_of_length_le (by rw [List.length_map]; omega), List.nil_append, List.length_map, show w.length + 1 - w.length = 1 by omega]
  rfl
 have hx0 : (strL (w ++ 32 :: r)).extract 0 (w.length + 0) = strL w := by
  apply ba_ext
  rw [Lib.extract_data, e, strL_list, List.drop_zero, List.take_left' (by rw [List.length_map]; omega)]
 rw [Lib.countB_hit _ _ w.length (by decide) hi, hx, Nat.add_comm 1, Lib.splitB_hit _ _ _ _ w.length hi, hx, hx0]
theorem split_last (w : List Int) (hw : IsBytes w) (h : ∀ x ∈ w, x ≠ 32) : splS (strL w) spB = [strL w] := by
 rw [splS_eq]
 refine Lib.splitB_miss _ _ _ _ ?_
 show Lib.index _ [32] = _
 rw [Lib.index_one, strL_list, index_no _ (u8_32 hw h)]
theorem rn_some (s : ByteArray) (h : s.size ≤ 65536) : gq107 s = some (rdnI s, rdnB s) := by
 rw [gq107_eq]
 unfold gq107.F
 rw [gRn_eq, decide_t (show s.size ≤ 281474976710656 by omega)]
 rfl
theorem itoa_num (n : Int) (h0 : 0 ≤ n) (h1 : n < 100) : Lib.itoa n = (strL (numL n)).data.toList := by
 have := num_i n h0 h1
 rw [gq162_eq] at this
 unfold gq162.F at this
 rw [decide_t h0, decide_t h1, Bool.and_self, grd_t, itoaS_eq, Option.some.injEq] at this
 rw [← this, Lib.itoa, if_neg (by omega)]
theorem atoi_num (n : Int) (h0 : 0 ≤ n) (h1 : n ≤ 50) : Lib.atoiAll (strL (numL n)).data.toList = .ok n := by
 have : ∀ m ∈ List.range 51, (match Lib.atoiAll ((numL ((m : Nat) : Int)).map fun n => UInt8.ofNat n.toNat) with | .ok v => decide (v = ((m : Nat) : Int)) | _ => false) = true := by decide
 rw [strL_list]
 have := this n.toNat (List.mem_range.2 (by omega))
 rw [Int.toNat_of_nonneg h0] at this
 split at this
 ·rename_i v hv
  rw [hv, of_decide_eq_true this]
 ·cases this
theorem rn_num (n : Int) (h0 : 0 ≤ n) (h1 : n ≤ 50) : gq107 (strL (numL n)) = some (n, true) := by
 have hl := numL_len n
 rw [rn_some _ (by rw [strL_size]; omega), rdnI_eq, rdnB_eq]
 have ht : (Lib.trimPrefix (strL (numL n)).data.toList [45]).length ≤ 18 := by
  unfold Lib.trimPrefix
  split
  ·rw [List.length_drop, strL_list, List.length_map]; omega
  ·rw [strL_list, List.length_map]; omega
 have : rnV0 (strL (numL n)) = (n, true) := by
  unfold rnV0
  rw [atoi_num n h0 h1]
  dsimp only
  rw [if_pos ⟨itoa_num n h0 (by omega), ht⟩]
 rw [this]
end Go.Proofs.YtdhifkdijlghdaaGreatDoorA
namespace Go.Proofs.YtdhifkdijlghdaaGreatDoorA
open Go
set_option linter.unusedVariables false
set_option linter.unusedSimpArgs false
end Go.Proofs.YtdhifkdijlghdaaGreatDoorA
namespace Go.Proofs.YtdhifkdijlghdaaGreatDoorA
open Go
set_option linter.unusedVariables false
set_option linter.unusedSimpArgs false
abbrev VB := ByteArray × ByteArray × Int
def hV (k : ByteArray) : List Int := sha (bytesL k)
def prB (v : VB) : El kk27b := (v.1, (v.2.1, strL (hV v.1)))
end Go.Proofs.YtdhifkdijlghdaaGreatDoorA
namespace Go.Proofs.YtdhifkdijlghdaaGreatDoorA
open Go
set_option linter.unusedVariables false
set_option linter.unusedSimpArgs false
def PrOk (g : Option (List VB)) (room : Int) (r : List (El kk27b) × Bool × Int) : Prop :=
 match g with
 | some l => if (l.length : Int) ≤ room then r = (l.map prB, true, room - l.length) else r.2.1 = false
 | none => r.2.1 = false
theorem PrOk.true {g : Option (List VB)} {room : Int} {r : List (El kk27b) × Bool × Int} (h : PrOk g room r) (ht : r.2.1 = true) : ∃ l, g = some l ∧ (l.length : Int) ≤ room ∧ r = (l.map prB, true, room - l.length) := by
 unfold PrOk at h
 split at h
 ·rename_i l
  split at h
  ·exact ⟨l, rfl, by assumption, h⟩
  ·rw [h] at ht; cases ht
 ·rw [h] at ht; cases ht
end Go.Proofs.YtdhifkdijlghdaaGreatDoorA
namespace Go.Proofs.YtdhifkdijlghdaaGreatDoorA
open Go
set_option linter.unusedVariables false
set_option linter.unusedSimpArgs false
end Go.Proofs.YtdhifkdijlghdaaGreatDoorA
namespace Go.Proofs.YtdhifkdijlghdaaGreatDoorA
open Go
set_option linter.unusedVariables false
set_option linter.unusedSimpArgs false
theorem treeHash_eq : ∀ (m fu : Nat) (l : List ByteArray), l.length ≤ m → m < fu → m ≤ 1000 → (∀ s ∈ l, s.size = 32) → ∃ v, gq94 fu l = some v ∧ gq87 fu l = some v ∧ v.size = 32
 | m, 0, _, _, h, _, _ => by omega
 | m, fu + 1, l, h, hf, hm, ha => by
  simp only [gq94, gq94.F, gq87, gq87.F]
  by_cases h0 : l.length = 0
  ·rw [show ((l.length : Int) == 0) = true by simp [h0], ct, ct, show ByteArray.empty = strL [] from rfl, hash_i _ IsBytes.nil (by simp), hash_s _ IsBytes.nil (by simp), bs]
   exact ⟨_, rfl, rfl, by rw [strL_size, sha_len]⟩
  rw [show ((l.length : Int) == 0) = false by rw [beq_eq_false_iff_ne]; omega, cf, cf]
  by_cases h2 : l.length = 1
  ·rw [show ((l.length : Int) == 1) = true by simp [h2], ct, ct, grd_of (gIx_t (by decide) (by omega)), show (0 : Int).toNat = 0 from rfl, rdE_at (k := .str) (show 0 < List.length (α := ByteArray) l by omega)]
   exact ⟨_, rfl, rfl, ha _ (List.getElem_mem _)⟩
  ·obtain ⟨e0, e1, e3, e4⟩ := half_eq (l.length : Int) (by omega) (by omega)
   have l1 := sub_length l (a := 0) (b := half (l.length : Int)) (by decide) (by omega) (by omega)
   have l2 := sub_length l (a := half (l.length : Int)) (b := (l.length : Int)) (by omega) (by omega) (by omega)
   have hs : ∀ a b, ∀ s ∈ sub l a b, s.size = 32 := fun a b s hs => ha s (List.mem_of_mem_take (List.mem_of_mem_drop hs))
   obtain ⟨v1, f1, g1, k1⟩ := treeHash_eq (m - 1) fu (sub l 0 (half (l.length : Int))) (by omega) (by omega) (by omega) (hs _ _)
   obtain ⟨v2, f2, g2, k2⟩ := treeHash_eq (m - 1) fu (sub l (half (l.length : Int)) (l.length : Int)) (by omega) (by omega) (by omega) (hs _ _)
   rw [show ((l.length : Int) == 1) = false by rw [beq_eq_false_iff_ne]; omega, cf, cf, e0, e1, bs, bs, grd_of (gSl_t (by decide) (by omega) (by omega)), grd_of (gSl_t (by decide) (by omega) (by omega)), f1, g1, bs, bs, grd_of (gSl_t (by omega) (by omega) (by omega)), grd_of (gSl_t (by omega) (by omega) (by omega)), f2, g2, bs, bs, nodeHash_i _ _ (by omega) (by omega), node_s _ _ (by omega) (by omega), bs]
   exact ⟨_, rfl, rfl, nodeV_size _ _⟩
end Go.Proofs.YtdhifkdijlghdaaGreatDoorA
namespace Go.Proofs.YtdhifkdijlghdaaGreatDoorA
open Go
set_option linter.unusedVariables false
set_option linter.unusedSimpArgs false
def secV (seed : ByteArray) (i c : Int) : ByteArray := strL (sha (4 :: i :: c :: bytesL seed))
theorem secV_size (seed : ByteArray) (i c : Int) : (secV seed i c).size = 32 := by rw [secV, strL_size, sha_len]
theorem sec_bytes {i c : Int} (h0 : 0 ≤ i) (h1 : i < 256) (h2 : 0 ≤ c) (h3 : c < 256) (seed : ByteArray) : IsBytes (4 :: i :: c :: bytesL seed) := IsBytes.cons (by decide) (by decide) (IsBytes.cons h0 h1 (IsBytes.cons h2 h3 (IsBytes.bytesL seed)))
theorem sec_s (seed : ByteArray) (hs : seed.size ≤ 1000000) {i c : Int} (h0 : 0 ≤ i) (h1 : i < 256) (h2 : 0 ≤ c) (h3 : c < 256) : gq149 seed i c = some (secV seed i c) := by
 unfold gq149 gq149.F
 rw [grd_of (gRm_t (by simp [bytesL_length]; omega)), wr8 h0 h1, wr8 h2 h3, show ([(4 : Int), i, c] ++ bytesL seed) = 4 :: i :: c :: bytesL seed from rfl, hash_s _ (sec_bytes h0 h1 h2 h3 seed) (by simp [bytesL_length]; omega), bs]
 rfl
theorem sec_i (seed : ByteArray) (hs : seed.size ≤ 1000000) {i c : Int} (h0 : 0 ≤ i) (h1 : i < 256) (h2 : 0 ≤ c) (h3 : c < 256) : gq161 seed i c = some (secV seed i c) := by
 unfold gq161 gq161.F
 rw [number1, bs, number1, bs, beL1, beL1, show i % 256 = i by omega, show c % 256 = c by omega, show (⟨#[4]⟩ : ByteArray) = strL [4] from rfl, strL_append, strL_append,
  grd_of (gCat_t (by rw [strL_size, strL_size]; simp)), grd_of (gCat_t (by rw [strL_size, strL_size]; simp)), grd_of (gCat_t (by rw [strL_size]; simp; omega)),
  show strL (([4] ++ [i]) ++ [c]) ++ seed = strL (4 :: i :: c :: bytesL seed) by rw [← strL_bytesL seed, strL_append, bytesL_strL (IsBytes.bytesL seed)]; rfl, hash_i _ (sec_bytes h0 h1 h2 h3 seed) (by simp [bytesL_length]; omega), bs]
 rfl
theorem chV_add : ∀ (a b : Nat) (i : Int) (h : ByteArray), chV (a + b) i h = chV b (i + a) (chV a i h)
 | 0, b, i, h => by rw [Nat.zero_add, Int.natCast_zero, Int.add_zero]; rfl
 | a + 1, b, i, h => by
  rw [show a + 1 + b = (a + b) + 1 by omega]
  show chV (a + b) (i + 1) _ = chV b _ (chV a (i + 1) _)
  rw [chV_add a b, show i + 1 + (a : Int) = i + ((a + 1 : Nat) : Int) by omega]
theorem chV_32 : ∀ (m : Nat) (i : Int) (h : ByteArray), h.size = 32 → (chV m i h).size = 32
 | 0, _, _, hh => hh
 | m + 1, i, h, hh => chV_32 m _ _ (by rw [strL_size, sha_len])
theorem end_part {d : Int} (h0 : 0 ≤ d) (h1 : d ≤ 15) (h : ByteArray) : endV d (chV d.toNat 0 h) = endV 0 h := by
 unfold endV
 rw [show (15 - (0 : Int)).toNat = d.toNat + (15 - d).toNat by omega, chV_add, Int.toNat_of_nonneg h0, Int.zero_add]
theorem chain_s0 (h : ByteArray) (hh : h.size ≤ 1000000) {d : Int} (h0 : 0 ≤ d) (h1 : d ≤ 15) : gq148 h 0 d = some (chV d.toNat 0 h) := by
 unfold gq148 gq148.F
 have := chain_s (fun s => some s) 0 d (by decide) (by omega) d.toNat fuel 0 h (by omega) (fuel_big (by omega)) (by decide) hh
 rw [Int.add_zero] at this
 exact this
theorem chain_i0 (h : ByteArray) (hh : h.size ≤ 1000000) {d : Int} (h0 : 0 ≤ d) (h1 : d ≤ 15) : gq160 h 0 d = some (chV d.toNat 0 h) := by
 unfold gq160 gq160.F
 exact chain_i (fun s => some s) 0 d (by decide) (by omega) d.toNat fuel 0 h (by omega) (fuel_big (by omega)) (by decide) hh
def endsK (seed : ByteArray) (idx : Int) (j : Int) (m : Nat) : List ByteArray := mkL (fun c => endV 0 (secV seed idx c)) 1 j m
theorem endsK_size (seed : ByteArray) (idx j : Int) (m : Nat) : ∀ s ∈ endsK seed idx j m, s.size = 32 := by
 intro s hs
 obtain ⟨i, hi, rfl⟩ := List.getElem_of_mem hs
 unfold endsK at hi ⊢
 rw [mkL_get]
 exact chV_32 _ _ _ (secV_size _ _ _)
def leafK (seed : ByteArray) (idx : Int) : ByteArray := endsV (endsK seed idx 0 18)
theorem leafK_size (seed : ByteArray) (idx : Int) : (leafK seed idx).size = 32 := endsV_size _
theorem leafl_s {R : Type} (kke : List ByteArray → Option R) (seed : ByteArray) (hs : seed.size ≤ 1000000) {idx : Int} (h0 : 0 ≤ idx) (h1 : idx < 256) : ∀ (m fu j : Nat) (out : List ByteArray), j + m = 18 → m < fu → out.length + m ≤ 1000 →
  gq175.l1 kke fu seed idx (j : Int) out = kke (out ++ endsK seed idx (j : Int) m)
 | 0, fu + 1, j, out, e, _, _ => by
  simp only [gq175.l1]
  rw [decide_f (by omega), cf]
  simp [endsK, mkL]
 | m + 1, fu + 1, j, out, e, hf, ho => by
  simp only [gq175.l1]
  rw [decide_t (by omega), ct, sec_s seed hs h0 h1 (by omega) (by omega), bs, chain_s0 _ (by rw [secV_size]; decide) (by decide) (by decide), bs, grd_of (gRm_t (by simp; omega)), wr (by omega) (by omega), show (j : Int) + 1 = ((j + 1 : Nat) : Int) by omega, leafl_s kke seed hs h0 h1 m fu (j + 1) _ (by omega) (by omega) (by simp; omega), List.append_assoc]
  simp only [endsK, mkL]
  rw [show ((j + 1 : Nat) : Int) = (j : Int) + 1 by omega]
  rfl
theorem leafl_i {R : Type} (kke : List ByteArray → Option R) (seed : ByteArray) (hs : seed.size ≤ 1000000) {idx : Int} (h0 : 0 ≤ idx) (h1 : idx < 256) : ∀ (m fu j : Nat) (out : List ByteArray), j + m = 18 → m < fu → out.length + m ≤ 1000 →
  gq194.l1 kke fu seed idx (j : Int) out = kke (out ++ endsK seed idx (j : Int) m)
 | 0, fu + 1, j, out, e, _, _ => by
  simp only [gq194.l1]
  rw [decide_f (by omega), cf]
  simp [endsK, mkL]
 | m + 1, fu + 1, j, out, e, hf, ho => by
  simp only [gq194.l1]
  rw [decide_t (by omega), ct, sec_i seed hs h0 h1 (by omega) (by omega), bs, chain_i0 _ (by rw [secV_size]; decide) (by decide) (by decide), bs, grd_of (gRm_t (by simp; omega)), wr (by omega) (by omega), show (j : Int) + 1 = ((j + 1 : Nat) : Int) by omega, leafl_i kke seed hs h0 h1 m fu (j + 1) _ (by omega) (by omega) (by simp; omega), List.append_assoc]
  simp only [endsK, mkL]
  rw [show ((j + 1 : Nat) : Int) = (j : Int) + 1 by omega]
  rfl
theorem endsK_len (seed : ByteArray) (idx j : Int) (m : Nat) : (endsK seed idx j m).length = m := mkL_length _ _ _ _
theorem leaf_s8 (seed : ByteArray) (hs : seed.size ≤ 1000000) {idx : Int} (h0 : 0 ≤ idx) (h1 : idx < 256) : gq175 seed idx = some (leafK seed idx) := by
 unfold gq175 gq175.F
 have := leafl_s (fun ends => (gq241 ends).bind fun r => some r) seed hs h0 h1 18 fuel 0 [] (by decide) (fuel_big (by decide)) (by simp)
 rw [Int.natCast_zero, List.nil_append] at this
 refine (show _ = _ from this).trans ?_
 rw [endsLeaf_s _ (by rw [endsK_len]; decide) (fun s h => by rw [endsK_size seed idx 0 18 s h]; decide), bs]
 rfl
theorem leaf_i8 (seed : ByteArray) (hs : seed.size ≤ 1000000) {idx : Int} (h0 : 0 ≤ idx) (h1 : idx < 256) : gq194 seed idx = some (leafK seed idx) := by
 unfold gq194 gq194.F
 have := leafl_i (fun ends => (gq244 ends).bind fun r => some r) seed hs h0 h1 18 fuel 0 [] (by decide) (fuel_big (by decide)) (by simp)
 rw [Int.natCast_zero, List.nil_append] at this
 refine (show _ = _ from this).trans ?_
 rw [endsLeaf_i _ (by rw [endsK_len]; decide) (fun s h => by rw [endsK_size seed idx 0 18 s h]; decide), bs]
 rfl
def keysK (seed : ByteArray) (j : Int) (m : Nat) : List ByteArray := mkL (leafK seed) 1 j m
theorem keysK_len (seed : ByteArray) (j : Int) (m : Nat) : (keysK seed j m).length = m := mkL_length _ _ _ _
theorem keysK_32 (seed : ByteArray) (j : Int) (m : Nat) : All32 (keysK seed j m) := by
 intro s hs
 obtain ⟨i, hi, rfl⟩ := List.getElem_of_mem hs
 unfold keysK at hi ⊢
 rw [mkL_get]
 exact leafK_size _ _
theorem keysl_s {R : Type} (kke : List ByteArray → Option R) (seed : ByteArray) (hs : seed.size ≤ 1000000) : ∀ (m fu j : Nat) (out : List ByteArray), j + m = 4 → m < fu → out.length + m ≤ 1000 →
  gq88.l1 kke fu seed (j : Int) out = kke (out ++ keysK seed (j : Int) m)
 | 0, fu + 1, j, out, e, _, _ => by
  simp only [gq88.l1]
  rw [decide_f (by omega), cf]
  simp [keysK, mkL]
 | m + 1, fu + 1, j, out, e, hf, ho => by
  simp only [gq88.l1]
  rw [decide_t (by omega), ct, leaf_s8 seed hs (by omega) (by omega), bs, grd_of (gRm_t (by simp; omega)), wr (by omega) (by omega), show (j : Int) + 1 = ((j + 1 : Nat) : Int) by omega, keysl_s kke seed hs m fu (j + 1) _ (by omega) (by omega) (by simp; omega), List.append_assoc]
  simp only [keysK, mkL]
  rw [show ((j + 1 : Nat) : Int) = (j : Int) + 1 by omega]
  rfl
theorem keysl_i {R : Type} (kke : List ByteArray → Option R) (seed : ByteArray) (hs : seed.size ≤ 1000000) : ∀ (m fu j : Nat) (out : List ByteArray), j + m = 4 → m < fu → out.length + m ≤ 1000 →
  gq112.l1 kke fu seed (j : Int) out = kke (out ++ keysK seed (j : Int) m)
 | 0, fu + 1, j, out, e, _, _ => by
  simp only [gq112.l1]
  rw [decide_f (by omega), cf]
  simp [keysK, mkL]
 | m + 1, fu + 1, j, out, e, hf, ho => by
  simp only [gq112.l1]
  rw [decide_t (by omega), ct, leaf_i8 seed hs (by omega) (by omega), bs, grd_of (gRm_t (by simp; omega)), wr (by omega) (by omega), show (j : Int) + 1 = ((j + 1 : Nat) : Int) by omega, keysl_i kke seed hs m fu (j + 1) _ (by omega) (by omega) (by simp; omega), List.append_assoc]
  simp only [keysK, mkL]
  rw [show ((j + 1 : Nat) : Int) = (j : Int) + 1 by omega]
  rfl
theorem keys_s (seed : ByteArray) (hs : seed.size ≤ 1000000) : gq88 seed = some (keysK seed 0 4) := by
 unfold gq88 gq88.F
 have := keysl_s (fun out => some out) seed hs 4 fuel 0 [] (by decide) (fuel_big (by decide)) (by simp)
 rw [Int.natCast_zero, List.nil_append] at this
 exact this
theorem keys_i (seed : ByteArray) (hs : seed.size ≤ 1000000) : gq112 seed = some (keysK seed 0 4) := by
 unfold gq112 gq112.F
 have := keysl_i (fun out => some out) seed hs 4 fuel 0 [] (by decide) (fuel_big (by decide)) (by simp)
 rw [Int.natCast_zero, List.nil_append] at this
 exact this
def partK (seed : ByteArray) (idx : Int) (ds : List Int) (c : Int) : ByteArray := chV (rdE (.int .i64 : Kd) ds c.toNat : Int).toNat 0 (secV seed idx c)
def partsK (seed : ByteArray) (idx : Int) (ds : List Int) (j : Int) (m : Nat) : List ByteArray := mkL (partK seed idx ds) 1 j m
theorem partsK_len (seed : ByteArray) (idx : Int) (ds : List Int) (j : Int) (m : Nat) : (partsK seed idx ds j m).length = m := mkL_length _ _ _ _
theorem partsK_32 (seed : ByteArray) (idx : Int) (ds : List Int) (j : Int) (m : Nat) : All32 (partsK seed idx ds j m) := by
 intro s hs
 obtain ⟨i, hi, rfl⟩ := List.getElem_of_mem hs
 unfold partsK at hi ⊢
 rw [mkL_get]
 exact chV_32 _ _ _ (secV_size _ _ _)
theorem dig_at {ds : List Int} (hd : ∀ d ∈ ds, 0 ≤ d ∧ d ≤ 15) {j : Nat} (hj : j < ds.length) : (0 : Int) ≤ rdE (.int .i64 : Kd) ds j ∧ rdE (.int .i64 : Kd) ds j ≤ (15 : Int) := by
 rw [rdE_at (k := .int .i64) (show j < List.length (α := Int) ds from hj)]
 exact hd _ (List.getElem_mem _)
theorem signl_s {R : Type} (kke : ByteArray → Int → Int → Int → List ByteArray → Option R) (seed : ByteArray) (hs : seed.size ≤ 1000000) {idx : Int} (h0 : 0 ≤ idx) (h1 : idx < 256) (i x : Int) (ds : List Int) (hd : ∀ d ∈ ds, 0 ≤ d ∧ d ≤ 15) (hl : ds.length = 18) : ∀ (m fu j : Nat) (out : List ByteArray), j + m = 18 → m < fu → out.length + m ≤ 1000 →
  gq62.l1 kke fu seed idx (j : Int) i x ds out = kke seed idx i x (out ++ partsK seed idx ds (j : Int) m)
 | 0, fu + 1, j, out, e, _, _ => by
  simp only [gq62.l1]
  rw [decide_f (by omega), cf]
  simp [partsK, mkL]
 | m + 1, fu + 1, j, out, e, hf, ho => by
  have hdj := dig_at hd (j := j) (by omega)
  simp only [gq62.l1]
  rw [decide_t (by omega), ct, sec_s seed hs h0 h1 (by omega) (by omega), bs, grd_of (gIx_t (by omega) (by omega)), Int.toNat_natCast, chain_s0 _ (by rw [secV_size]; decide) hdj.1 hdj.2, bs, grd_of (gRm_t (by simp; omega)), wr (by omega) (by omega), show (j : Int) + 1 = ((j + 1 : Nat) : Int) by omega, signl_s kke seed hs h0 h1 i x ds hd hl m fu (j + 1) _ (by omega) (by omega) (by simp; omega), List.append_assoc]
  simp only [partsK, mkL]
  rw [show ((j + 1 : Nat) : Int) = (j : Int) + 1 by omega]
  rfl
theorem signl_i {R : Type} (kke : Int → Int → List ByteArray → List ByteArray → Option R) (seed : ByteArray) (hs : seed.size ≤ 1000000) {idx : Int} (h0 : 0 ≤ idx) (h1 : idx < 256) (i2 o : Int) (ds : List Int) (hd : ∀ d ∈ ds, 0 ≤ d ∧ d ≤ 15) (hl : ds.length = 18) (pa : List ByteArray) : ∀ (m fu j : Nat) (out : List ByteArray), j + m = 18 → m < fu → out.length + m ≤ 1000 →
  gq72.l1 kke fu seed idx (18 : Int) (j : Int) i2 o ds out pa = kke i2 o (out ++ partsK seed idx ds (j : Int) m) pa
 | 0, fu + 1, j, out, e, _, _ => by
  simp only [gq72.l1]
  rw [decide_f (by omega), cf]
  simp [partsK, mkL]
 | m + 1, fu + 1, j, out, e, hf, ho => by
  have hdj := dig_at hd (j := j) (by omega)
  simp only [gq72.l1]
  rw [decide_t (by omega), ct, grd_of (gIx_t (by omega) (by omega)), sec_i seed hs h0 h1 (by omega) (by omega), bs, Int.toNat_natCast, chain_i0 _ (by rw [secV_size]; decide) hdj.1 hdj.2, bs, grd_of (gRm_t (by simp; omega)), wr (by omega) (by omega), show (j : Int) + 1 = ((j + 1 : Nat) : Int) by omega, signl_i kke seed hs h0 h1 i2 o ds hd hl pa m fu (j + 1) _ (by omega) (by omega) (by simp; omega), List.append_assoc]
  simp only [partsK, mkL]
  rw [show ((j + 1 : Nat) : Int) = (j : Int) + 1 by omega]
  rfl
theorem endsOf_parts (seed : ByteArray) (idx : Int) (ds : List Int) (hd : ∀ d ∈ ds, 0 ≤ d ∧ d ≤ 15) (hl : ds.length = 18) : endsOf ds (partsK seed idx ds 0 18) = endsK seed idx 0 18 := by
 unfold endsOf
 apply List.ext_getElem
 ·rw [List.length_zipWith, partsK_len, endsK_len]; omega
 ·intro n h1 h2
  rw [endsK_len] at h2
  rw [List.getElem_zipWith]
  simp only [partsK, endsK, mkL_get]
  unfold partK
  rw [show ((0 : Int) + 1 * (n : Int)).toNat = n by omega, rdE_at (k := .int .i64) (show n < List.length (α := Int) ds by omega)]
  have := hd _ (List.getElem_mem (h := show n < ds.length by omega))
  exact end_part this.1 this.2 _
theorem leafOf_parts (seed msg : ByteArray) (idx : Int) : leafOf msg (partsK seed idx (dgV (hsh msg)) 0 18) = leafK seed idx := by
 unfold leafOf leafK
 rw [endsOf_parts seed idx _ (dgV_range msg) (dgV_len msg)]
theorem tree_fuel : ∀ (m fu fu' : Nat) (l : List ByteArray), l.length ≤ m → m < fu → m < fu' → m ≤ 1000 → 1 ≤ l.length → gq87 fu l = gq87 fu' l
 | 0, fu, fu', l, h, _, _, _, h1 => by omega
 | m + 1, fu + 1, fu' + 1, l, h, hf, hf', hm, h1 => by
  unfold gq87 gq87.F
  rw [show ((l.length : Int) == 0) = false by rw [beq_eq_false_iff_ne]; omega, cf, cf]
  by_cases h2 : l.length = 1
  ·rw [show ((l.length : Int) == 1) = true by simp [h2], ct, ct]
  ·obtain ⟨_, e1, e3, e4⟩ := half_eq (l.length : Int) (by omega) (by omega)
   have l1 := sub_length l (a := 0) (b := half (l.length : Int)) (by decide) (by omega) (by omega)
   have l2 := sub_length l (a := half (l.length : Int)) (b := (l.length : Int)) (by omega) (by omega) (by omega)
   rw [show ((l.length : Int) == 1) = false by rw [beq_eq_false_iff_ne]; omega, cf, cf, e1, bs, bs, tree_fuel m fu fu' (sub l 0 (half (l.length : Int))) (by omega) (by omega) (by omega) (by omega) (by omega), tree_fuel m fu fu' (sub l (half (l.length : Int)) (l.length : Int)) (by omega) (by omega) (by omega) (by omega) (by omega)]
theorem path_fold : ∀ (m fu : Nat) (l : List ByteArray) (at_ : Int) (x : ByteArray), l.length ≤ m → m < fu → m ≤ 1000 → 0 ≤ at_ → at_ < l.length → All32 l → l[at_.toNat]? = some x →
  ∃ p v, gq150 fu l at_ = some p ∧ gq87 fuel l = some v ∧ p.length = (ways m at_ (l.length : Int)).length ∧ foldW x (ways m at_ (l.length : Int)) p = v
 | 0, fu + 1, l, at_, x, h, _, _, h0, h1, _, _ => by omega
 | m + 1, fu + 1, l, at_, x, h, hf, hm, h0, h1, ha, hx => by
  obtain ⟨fu', hfu⟩ : ∃ q, fuel = q + 1 := ⟨fuel - 1, by rw [fuel_eq]⟩
  unfold gq150 gq150.F
  by_cases h2 : l.length = 1
  ·have ht : gq87 fuel l = some x := by
    rw [hfu]
    unfold gq87 gq87.F
    have : at_ = 0 := by omega
    subst this
    rw [show ((l.length : Int) == 0) = false by rw [beq_eq_false_iff_ne]; omega, cf, show ((l.length : Int) == 1) = true by simp [h2], ct, grd_of (gIx_t (by decide) (by omega)), show (0 : Int).toNat = 0 from rfl, rdE_at (k := .str) (show 0 < List.length (α := ByteArray) l by omega)]
    rw [show (0 : Int).toNat = 0 from rfl, List.getElem?_eq_getElem (by omega)] at hx
    exact hx
   rw [show ((l.length : Int) == 1) = true by simp [h2], ct]
   refine ⟨[], x, rfl, ht, ?_, ?_⟩
   ·unfold ways
    rw [if_pos (by omega)]
    rfl
   ·unfold ways
    rw [if_pos (by omega)]
    rfl
  ·obtain ⟨_, e1, e3, e4⟩ := half_eq (l.length : Int) (by omega) (by omega)
   have l1 := sub_length l (a := 0) (b := half (l.length : Int)) (by decide) (by omega) (by omega)
   have l2 := sub_length l (a := half (l.length : Int)) (b := (l.length : Int)) (by omega) (by omega) (by omega)
   have tr : ∀ q : List ByteArray, 1 ≤ q.length → q.length ≤ 1000 → All32 q → ∀ v, gq87 fuel q = some v → gq87 fu' q = some v := by
    intro q hq hq2 ha' v hv
    rw [← hv]
    exact tree_fuel 1000 fu' fuel q hq2 (by have := fuel_eq; omega) (fuel_big (by decide)) (by decide) hq
   obtain ⟨v1, f1, k1⟩ := tree_ok 1000 fuel (sub l 0 (half (l.length : Int))) (by omega) (fuel_big (by decide)) (by omega) (by omega) (ha.sub _ _)
   obtain ⟨v2, f2, k2⟩ := tree_ok 1000 fuel (sub l (half (l.length : Int)) (l.length : Int)) (by omega) (fuel_big (by decide)) (by omega) (by omega) (ha.sub _ _)
   have ht : gq87 fuel l = some (nodeV v1 v2) := by
    rw [hfu]
    unfold gq87 gq87.F
    rw [show ((l.length : Int) == 0) = false by rw [beq_eq_false_iff_ne]; omega, cf, show ((l.length : Int) == 1) = false by rw [beq_eq_false_iff_ne]; omega, cf, e1, bs, grd_of (gSl_t (by decide) (by omega) (by omega)), tr _ (by omega) (by omega) (ha.sub _ _) _ f1, bs, grd_of (gSl_t (by omega) (by omega) (by omega)), tr _ (by omega) (by omega) (ha.sub _ _) _ f2, bs, node_s _ _ (by omega) (by omega), bs]
   rw [show ((l.length : Int) == 1) = false by rw [beq_eq_false_iff_ne]; omega, cf, e1, bs]
   unfold ways
   rw [if_neg (by omega)]
   by_cases h3 : at_ < half (l.length : Int)
   ·obtain ⟨p, v, f3, f4, k4, k5⟩ := path_fold m fu (sub l 0 (half (l.length : Int))) at_ x (by omega) (by omega) (by omega) h0 (by omega) (ha.sub _ _) (by
     unfold sub
     rw [show (0 : Int).toNat = 0 from rfl, List.drop_zero, List.getElem?_take, if_pos (by omega), hx])
    obtain rfl := Option.some.inj (f4.symm.trans f1)
    rw [l1, show half (l.length : Int) - 0 = half (l.length : Int) by omega] at k4 k5
    have hr : p.length ≤ 1000 := by rw [k4]; have := ways_len m at_ (half (l.length : Int)); omega
    rw [decide_t h3, ct, grd_of (gSl_t (by decide) (by omega) (by omega)), f3, bs, grd_of (gSl_t (by omega) (by omega) (by omega)), f2, bs, grd_of (gRm_t (by simp; omega)), if_pos h3]
    refine ⟨_, _, rfl, ht, ?_, ?_⟩
    ·rw [List.length_append, List.length_append, k4]
     rfl
    ·rw [foldW_snoc _ _ _ _ _ k4.symm, if_pos rfl, k5]
   ·obtain ⟨p, v, f3, f4, k4, k5⟩ := path_fold m fu (sub l (half (l.length : Int)) (l.length : Int)) (at_ - half (l.length : Int)) x (by omega) (by omega) (by omega) (by omega) (by omega) (ha.sub _ _) (by
     unfold sub
     rw [Int.toNat_natCast, List.take_of_length_le (Nat.le_refl _), List.getElem?_drop, show (half (l.length : Int)).toNat + (at_ - half (l.length : Int)).toNat = at_.toNat by omega, hx])
    obtain rfl := Option.some.inj (f4.symm.trans f2)
    rw [l2] at k4 k5
    have hr : p.length ≤ 1000 := by rw [k4]; have := ways_len m (at_ - half (l.length : Int)) ((l.length : Int) - half (l.length : Int)); omega
    rw [decide_f h3, cf, wr (by omega) (by omega), grd_of (gSl_t (by omega) (by omega) (by omega)), f3, bs, grd_of (gSl_t (by decide) (by omega) (by omega)), f1, bs, grd_of (gRm_t (by simp; omega)), if_neg h3]
    refine ⟨_, _, rfl, ht, ?_, ?_⟩
    ·rw [List.length_append, List.length_append, k4]
     rfl
    ·rw [foldW_snoc _ _ _ _ _ k4.symm, if_neg (by decide), k5]
end Go.Proofs.YtdhifkdijlghdaaGreatDoorA
namespace Go.Proofs.YtdhifkdijlghdaaGreatDoorA
open Go
set_option linter.unusedVariables false
set_option linter.unusedSimpArgs false
def txL (S : Int) (L M : ByteArray) : List Int := [115, 105, 122, 101] ++ 32 :: (numL S ++ 32 :: ([108, 111, 103] ++ 32 :: (hexL (bytesL L) ++ 32 :: ([109, 97, 112] ++ 32 :: hexL (bytesL M)))))
theorem txV_list (S : Int) (L M : ByteArray) : txV S L M = strL (txL S L M) := by
 unfold txV hexV
 rw [show (⟨#[115, 105, 122, 101, 32]⟩ : ByteArray) = strL [115, 105, 122, 101, 32] from rfl, show (⟨#[32, 108, 111, 103, 32]⟩ : ByteArray) = strL [32, 108, 111, 103, 32] from rfl, show (⟨#[32, 109, 97, 112, 32]⟩ : ByteArray) = strL [32, 109, 97, 112, 32] from rfl]
 rw [strL_append, strL_append, strL_append, strL_append, strL_append]
 congr 1
 unfold txL
 simp
theorem numL_bytes {S : Int} (h0 : 0 ≤ S) (h1 : S ≤ 50) : IsBytes (numL S) := by
 unfold numL
 split
 ·exact IsBytes.cons (by omega) (by omega) IsBytes.nil
 ·exact IsBytes.cons (by omega) (by omega) (IsBytes.cons (by omega) (by omega) IsBytes.nil)
theorem numL_no {S : Int} (h0 : 0 ≤ S) (h1 : S ≤ 50) : ∀ x ∈ numL S, x ≠ 32 := by
 unfold numL
 intro x hx
 split at hx
 ·simp at hx; omega
 ·simp at hx; omega
theorem hx_no (a : Int) (h0 : 0 ≤ a) (h1 : a < 16) : byteAt hxD a ≠ 32 := by
 have : ∀ n ∈ List.range 16, byteAt hxD (n : Nat) ≠ 32 := by decide
 have := this a.toNat (List.mem_range.2 (by omega))
 rwa [Int.toNat_of_nonneg h0] at this
theorem hexL_no (s : ByteArray) : ∀ x ∈ hexL (bytesL s), x ≠ 32 := by
 intro x hx
 obtain ⟨a, h0, h1, rfl⟩ := hexL_mem _ (IsBytes.bytesL s) x hx
 exact hx_no a h0 h1
theorem lit_no {l : List Int} (h : (l.all fun y => decide (y ≠ 32)) = true) : ∀ x ∈ l, x ≠ 32 := fun x hx => of_decide_eq_true (List.all_eq_true.1 h x hx)
theorem lit_bytes {l : List Int} (h : (l.all fun y => decide (0 ≤ y) && decide (y < 256)) = true) : IsBytes l := fun y hy => by
 have := List.all_eq_true.1 h y hy
 rw [Bool.and_eq_true, decide_eq_true_iff, decide_eq_true_iff] at this
 exact this
theorem txL_split {S : Int} {L M : ByteArray} (h0 : 0 ≤ S) (h1 : S ≤ 50) : splS (strL (txL S L M)) spB = [strL [115, 105, 122, 101], strL (numL S), strL [108, 111, 103], hexV L, strL [109, 97, 112], hexV M] := by
 unfold txL
 rw [split_word _ _ (lit_bytes (by decide)) (lit_no (by decide)), split_word _ _ (numL_bytes h0 h1) (numL_no h0 h1), split_word _ _ (lit_bytes (by decide)) (lit_no (by decide)), split_word _ _ (hexL_bytes _) (hexL_no L), split_word _ _ (lit_bytes (by decide)) (lit_no (by decide)), split_last _ (hexL_bytes _) (hexL_no M)]
 rfl
theorem isText_one (t : ByteArray) : gq96 [t] = some (decide (t.size ≤ 65536)) := by
 rw [isText_eq [t] (by simp)]
 simp [isTx]
theorem iStm_hit (S : Int) (L M : ByteArray) (h : stmOK S L M = true) : gq34 (txV S L M) = some (S, L, M, 0) := by
 obtain ⟨⟨h0, h1⟩, hL, hM⟩ := stm_parts h
 have hsz := txV_size h
 unfold gq34 gq34.F
 rw [isText_one, decide_t (by omega), bs, Bool.not_true, cf, show (⟨#[32]⟩ : ByteArray) = spB from rfl, split_some _ (by omega), bs, show splS (txV S L M) spB = [strL [115, 105, 122, 101], strL (numL S), strL [108, 111, 103], hexV L, strL [109, 97, 112], hexV M] from by rw [txV_list]; exact txL_split h0 h1]
 rw [show (((([strL [115, 105, 122, 101], strL (numL S), strL [108, 111, 103], hexV L, strL [109, 97, 112], hexV M] : List ByteArray).length : Nat) : Int) != 6) = false from rfl, cf, grd_of (gIx_t (by decide) (by simp))]
 rw [show gq107 (rdE (.str : Kd) [strL [115, 105, 122, 101], strL (numL S), strL [108, 111, 103], hexV L, strL [109, 97, 112], hexV M] (Int.toNat 1)) = some (S, true) from rn_num S h0 h1, bs, grd_of (gIx_t (by decide) (by simp)), show gq108 (rdE (.str : Kd) [strL [115, 105, 122, 101], strL (numL S), strL [108, 111, 103], hexV L, strL [109, 97, 112], hexV M] (Int.toNat 3)) = some (L, true) from readHash_hex L hL, bs, grd_of (gIx_t (by decide) (by simp)), show gq108 (rdE (.str : Kd) [strL [115, 105, 122, 101], strL (numL S), strL [108, 111, 103], hexV L, strL [109, 97, 112], hexV M] (Int.toNat 5)) = some (M, true) from readHash_hex M hM, bs, statementOK_i, bs, h, Bool.not_true, cf, text_i h, bs, sEq_self, Bool.not_true, cf]
end Go.Proofs.YtdhifkdijlghdaaGreatDoorA
namespace Go.Proofs.YtdhifkdijlghdaaGreatDoorA
open Go
set_option linter.unusedVariables false
set_option linter.unusedSimpArgs false
theorem incl_tot : ∀ (m fu : Nat) (l : List ByteArray) (at_ : Int), l.length ≤ m → m < fu → m ≤ 1000 → 0 ≤ at_ → at_ < l.length → All32 l → ∃ p, gq120 fu l at_ = some p ∧ p.length ≤ m
 | 0, fu + 1, l, at_, h, _, _, h0, h1, _ => by omega
 | m + 1, fu + 1, l, at_, h, hf, hm, h0, h1, ha => by
  unfold gq120 gq120.F
  by_cases h2 : l.length = 1
  ·rw [decide_t (by omega), ct]
   exact ⟨[], rfl, by simp⟩
  ·obtain ⟨e1, _, e3, e4⟩ := half_eq (l.length : Int) (by omega) (by omega)
   have l1 := sub_length l (a := 0) (b := half (l.length : Int)) (by decide) (by omega) (by omega)
   have l2 := sub_length l (a := half (l.length : Int)) (b := (l.length : Int)) (by omega) (by omega) (by omega)
   obtain ⟨v1, f1, _, k1⟩ := treeHash_eq 1000 fuel (sub l 0 (half (l.length : Int))) (by omega) (fuel_big (by decide)) (by omega) (ha.sub _ _)
   obtain ⟨v2, f2, _, k2⟩ := treeHash_eq 1000 fuel (sub l (half (l.length : Int)) (l.length : Int)) (by omega) (fuel_big (by decide)) (by omega) (ha.sub _ _)
   rw [decide_f (by omega), cf, e1, bs]
   by_cases h3 : at_ < half (l.length : Int)
   ·obtain ⟨p, f3, k3⟩ := incl_tot m fu (sub l 0 (half (l.length : Int))) at_ (by omega) (by omega) (by omega) h0 (by omega) (ha.sub _ _)
    rw [decide_t h3, ct, grd_of (gSl_t (by decide) (by omega) (by omega)), f3, bs, grd_of (gSl_t (by omega) (by omega) (by omega)), f2, bs, grd_of (gRm_t (by simp; omega))]
    exact ⟨_, rfl, by simp; omega⟩
   ·obtain ⟨p, f3, k3⟩ := incl_tot m fu (sub l (half (l.length : Int)) (l.length : Int)) (at_ - half (l.length : Int)) (by omega) (by omega) (by omega) (by omega) (by omega) (ha.sub _ _)
    rw [decide_f h3, cf, wr (by omega) (by omega), grd_of (gSl_t (by omega) (by omega) (by omega)), f3, bs, grd_of (gSl_t (by decide) (by omega) (by omega)), f1, bs, grd_of (gRm_t (by simp; omega))]
    exact ⟨_, rfl, by simp; omega⟩
theorem growth_tot : ∀ (m fu : Nat) (l : List ByteArray) (old : Int) (known : Bool), l.length ≤ m → m < fu → m ≤ 1000 → 1 ≤ old → old ≤ l.length → All32 l → ∃ p, gq93 fu l old known = some p ∧ All32 p ∧ p.length ≤ m
 | 0, fu + 1, l, old, known, h, _, _, h0, h1, _ => by omega
 | m + 1, fu + 1, l, old, known, h, hf, hm, h0, h1, ha => by
  unfold gq93 gq93.F gq93.j1
  by_cases h2 : old = l.length
  ·rw [show (old == (l.length : Int)) = true by simp [h2], ct]
   dsimp only
   cases known with
   | true => exact ⟨[], rfl, fun s hs => by simp at hs, by simp⟩
   | false =>
    obtain ⟨v, f1, _, k1⟩ := treeHash_eq 1000 fuel l (by omega) (fuel_big (by decide)) (by omega) ha
    rw [cf, h2, show (((l.length : Nat) : Int) == (l.length : Int)) = true from beq_self_eq_true _, ct, f1, bs]
    exact ⟨[v], rfl, All32.one k1, by simp⟩
  ·have hb : (old == (l.length : Int)) = false := by rw [beq_eq_false_iff_ne]; omega
   obtain ⟨e1, _, e3, e4⟩ := half_eq (l.length : Int) (by omega) (by omega)
   have l1 := sub_length l (a := 0) (b := half (l.length : Int)) (by decide) (by omega) (by omega)
   have l2 := sub_length l (a := half (l.length : Int)) (b := (l.length : Int)) (by omega) (by omega) (by omega)
   obtain ⟨v1, f1, _, k1⟩ := treeHash_eq 1000 fuel (sub l 0 (half (l.length : Int))) (by omega) (fuel_big (by decide)) (by omega) (ha.sub _ _)
   obtain ⟨v2, f2, _, k2⟩ := treeHash_eq 1000 fuel (sub l (half (l.length : Int)) (l.length : Int)) (by omega) (fuel_big (by decide)) (by omega) (ha.sub _ _)
   rw [hb, cf]
   dsimp only
   rw [cf, hb, cf, e1, bs]
   by_cases h3 : old ≤ half (l.length : Int)
   ·obtain ⟨p, f3, k3, k4⟩ := growth_tot m fu (sub l 0 (half (l.length : Int))) old known (by omega) (by omega) (by omega) h0 (by omega) (ha.sub _ _)
    rw [decide_t h3, ct, grd_of (gSl_t (by decide) (by omega) (by omega)), f3, bs, grd_of (gSl_t (by omega) (by omega) (by omega)), f2, bs, grd_of (gRm_t (by simp; omega))]
    exact ⟨_, rfl, k3.app (All32.one k2), by simp; omega⟩
   ·obtain ⟨p, f3, k3, k4⟩ := growth_tot m fu (sub l (half (l.length : Int)) (l.length : Int)) (old - half (l.length : Int)) false (by omega) (by omega) (by omega) (by omega) (by omega) (ha.sub _ _)
    rw [decide_f h3, cf, wr (by omega) (by omega), grd_of (gSl_t (by omega) (by omega) (by omega)), f3, bs, grd_of (gSl_t (by decide) (by omega) (by omega)), f1, bs, grd_of (gRm_t (by simp; omega))]
    exact ⟨_, rfl, k3.app (All32.one k1), by simp; omega⟩
theorem leavesCode_ok (l : List ByteArray) (hl : l.length ≤ 64) (ha : All32 l) : gq91 l = some 0 := by
 unfold gq91 gq91.F
 rw [isList_eq, bs, decide_t (show l.length ≤ 4096 by omega), Bool.not_true, cf, decide_f (by omega), cf, isHash_eq l (by omega), bs, all32_all ha, Bool.not_true, cf]
theorem consist_ok (l : List ByteArray) (old : Int) (hl : l.length ≤ 64) (ha : All32 l) (h0 : 1 ≤ old) (h1 : old ≤ l.length) : ∃ p, gq28 l old = some (p, 0) ∧ All32 p ∧ p.length ≤ 64 := by
 unfold gq28 gq28.F
 obtain ⟨p, e, k1, k2⟩ := growth_tot 64 fuel l old true hl (fuel_big (by decide)) (by decide) h0 h1 ha
 rw [leavesCode_ok l hl ha, bs, bne_self_eq_false, cf, within_eq, bs, decide_t h0, decide_t h1, Bool.and_self, Bool.not_true, cf, e, bs]
 exact ⟨p, rfl, k1, k2⟩
theorem treeHash_ok (l : List ByteArray) (hl : l.length ≤ 64) (ha : All32 l) : ∃ v, gq29 l = some (v, 0) ∧ v.size = 32 := by
 unfold gq29 gq29.F
 obtain ⟨v, f1, _, k1⟩ := treeHash_eq 1000 fuel l (by omega) (fuel_big (by decide)) (by omega) ha
 rw [leavesCode_ok l hl ha, bs, bne_self_eq_false, cf, f1, bs]
 exact ⟨v, rfl, k1⟩
theorem sTreeHash_ok (l : List ByteArray) (h1 : 1 ≤ l.length) (hl : l.length ≤ 64) (ha : All32 l) : ∃ v, gq26 l = some (v, 0) ∧ v.size = 32 := by
 unfold gq26 gq26.F gq89 gq89.F
 have hd : decide ((l.length : Int) > 4096) = false := decide_f (by omega)
 obtain ⟨v, f1, k1⟩ := tree_ok 1000 fuel l (by omega) (fuel_big (by decide)) (by omega) h1 ha
 rw [hd, cf, cf, l06Hashes_eq l (by omega), all32_all ha, decide_t hl, bs, Bool.and_self, Bool.not_true, cf, bs, bne_self_eq_false, cf, f1, bs]
 exact ⟨v, rfl, k1⟩
theorem sign_tot (seed : ByteArray) (h32 : seed.size = 32) (msg : ByteArray) (hm : msg.size ≤ 65536) : ∃ ix ps pa, gq31 seed 0 msg = some (ix, ps, pa, 0) ∧ ps.length ≤ 1048576 ∧ pa.length ≤ 1048576 := by
 unfold gq31 gq31.F gq97 gq97.F gq72 gq72.F
 obtain ⟨p, e, k⟩ := incl_tot 64 fuel (keysK seed 0 4) 0 (by rw [keysK_len]; decide) (fuel_big (by decide)) (by decide) (by decide) (by rw [keysK_len]; decide) (keysK_32 seed 0 4)
 have hl := dgV_len msg
 have := signl_i (fun i out l l1 => some (out, l, l1)) seed (by omega) (idx := 0) (by decide) (by decide) 0 0 (dgV (hsh msg)) (dgV_range msg) hl p 18 fuel 0 [] (by decide) (fuel_big (by decide)) (by simp)
 rw [Int.natCast_zero, List.nil_append] at this
 rw [isText_one, decide_t hm, bs, Bool.not_true, cf, isText_one, decide_t (show seed.size ≤ 65536 by omega), bs, Bool.not_true, cf, isHash_eq [seed] (by simp), bs, show [seed].all is32 = true by simp [is32, h32], Bool.not_true, cf, within_eq, bs, show (!(decide ((0 : Int) ≤ 0) && decide ((0 : Int) ≤ 3))) = false from rfl, cf, bs, bne_self_eq_false, cf,
  keys_i seed (by omega), bs, e, bs, digits_i msg (by omega), bs, hl]
 refine ⟨0, partsK seed 0 (dgV (hsh msg)) 0 18, p, ?_, by rw [partsK_len]; decide, by omega⟩
 exact congrArg (fun z => Option.bind z _) this
theorem sign_s (seed : ByteArray) (h32 : seed.size = 32) (k : Int) (h0 : 0 ≤ k) (h1 : k ≤ 3) (msg : ByteArray) (hm : msg.size ≤ 65536) : ∃ p v, gq36 seed k msg = some (k, partsK seed k (dgV (hsh msg)) 0 18, p, 0) ∧ gq24 seed = some (v, 0) ∧ v.size = 32 ∧ All32 p ∧
  p.length = (ways 64 k 4).length ∧ foldW (leafK seed k) (ways 64 k 4) p = v := by
 have hx : (keysK seed 0 4)[k.toNat]? = some (leafK seed k) := by
  have hk : k.toNat < (keysK seed 0 4).length := by rw [keysK_len]; omega
  rw [List.getElem?_eq_getElem hk]
  unfold keysK at hk ⊢
  rw [mkL_get]
  congr 2
  omega
 have hlen : (((keysK seed 0 4).length : Nat) : Int) = 4 := by rw [keysK_len]; rfl
 obtain ⟨p, v, f1, f2, f3, f4⟩ := path_fold 64 fuel (keysK seed 0 4) k (leafK seed k) (by rw [keysK_len]; decide) (fuel_big (by decide)) (by decide) h0 (by omega) (keysK_32 seed 0 4) hx
 obtain ⟨p', g1, g2, _, _⟩ := path_ok 64 fuel (keysK seed 0 4) k (by rw [keysK_len]; decide) (fuel_big (by decide)) (by decide) h0 (by omega) (keysK_32 seed 0 4)
 obtain rfl := Option.some.inj (f1.symm.trans g1)
 obtain ⟨v', j1, j2⟩ := tree_ok 1000 fuel (keysK seed 0 4) (by rw [keysK_len]; decide) (fuel_big (by decide)) (by decide) (by rw [keysK_len]; decide) (keysK_32 seed 0 4)
 obtain rfl := Option.some.inj (f2.symm.trans j1)
 rw [hlen] at f3 f4
 have hl := dgV_len msg
 refine ⟨p, v, ?_, ?_, j2, g2, f3, f4⟩
 ·unfold gq36 gq36.F gq109 gq109.F gq62 gq62.F
  have := signl_s (fun seed1 index1 i x l => (gq88 seed1).bind fun r1 => (gq150 fuel r1 index1).bind fun r2 => some (x, l, r2)) seed (by omega) (idx := k) h0 (by omega) 0 k (dgV (hsh msg)) (dgV_range msg) hl 18 fuel 0 [] (by decide) (fuel_big (by decide)) (by simp)
  rw [Int.natCast_zero, List.nil_append, keys_s seed (by omega), bs, f1, bs] at this
  rw [decide_f (by omega), cf, decide_f (by omega), cf, size32', show is32 seed = true by simp [is32, h32], Bool.not_true, cf, l01In_eq, bs, decide_t h0, decide_t h1, Bool.and_self, bs, Bool.not_true, cf, digits_s msg (by omega), bs]
  exact congrArg (fun z => Option.bind z _) this
 ·unfold gq24 gq24.F
  rw [decide_f (by omega), cf, size32', show is32 seed = true by simp [is32, h32], Bool.not_true, cf, keys_s seed (by omega), bs, f2, bs]
theorem verify_hit (seed : ByteArray) (v msg : ByteArray) (k : Int) (h0 : 0 ≤ k) (h1 : k ≤ 3) (p : List ByteArray) (hm : msg.size ≤ 65536) (hv : v.size = 32) (hp : All32 p) (hl : p.length = (ways 64 k 4).length) (hf : foldW (leafK seed k) (ways 64 k 4) p = v) :
  gq99 v msg k (partsK seed k (dgV (hsh msg)) 0 18) p = some 0 := by
 have hps := partsK_32 seed k (dgV (hsh msg)) 0 18
 have hpl := partsK_len seed k (dgV (hsh msg)) 0 18
 have hw := ways_len 64 k 4
 unfold gq99 gq99.F gq99.j1 gq99.j2
 rw [isText_eq [v, msg] (by simp), bs, show [v, msg].all isTx = true by simp [isTx, hm, hv]]
 simp only [isList_eq, isHash_eq [v] (by simp), isHash_eq (partsK seed k (dgV (hsh msg)) 0 18) (show (partsK seed k (dgV (hsh msg)) 0 18).length ≤ 1000000000 by omega), isHash_eq p (show p.length ≤ 1000000000 by omega), bs, show [v].all is32 = true by simp [is32, hv], all32_all hps, all32_all hp]
 have hx : decide (mx2 (((partsK seed k (dgV (hsh msg)) 0 18).length : Nat) : Int) (p.length : Int) > 64) = false := by
  refine decide_f ?_
  unfold mx2
  split <;> omega
 obtain ⟨e1, _⟩ := leadsTo_eq k (partsK seed k (dgV (hsh msg)) 0 18) p v msg (by omega) h0 h1 hpl (fun s hs => by rw [hps s hs]; decide) ⟨by omega, fun s hs => by rw [hp s hs]; decide⟩
 rw [hx, decide_t (show (partsK seed k (dgV (hsh msg)) 0 18).length ≤ 4096 by omega), decide_t (show p.length ≤ 4096 by omega)]
 simp only [Bool.not_true, Bool.and_self, cf, within_eq, bs]
 rw [decide_t h0, decide_t h1, Bool.and_self, Bool.not_true, cf, show ((((partsK seed k (dgV (hsh msg)) 0 18).length : Nat) : Int) != 18) = false by rw [hpl]; rfl, cf, e1, bs, if_pos hl, leafOf_parts, hf, sEq_self]
 rfl
theorem adv_t (K : ByteArray) (S : Int) (L M : ByteArray) (S' : Int) (L' M' : ByteArray) (idx : Int) (ps path proof : List ByteArray) (hp : ps.length ≤ 1048576) (hq : path.length ≤ 1048576) (ho : proof.length ≤ 1048576) (ht : trOK K true S L M = true) (hs : stmOK S' L' M' = true) (hpr : All32 proof) (h64 : proof.length ≤ 64) :
  ∃ k h s l m c, gq32 K true S L M S' L' M' idx ps path proof = some (k, h, s, l, m, c) ∧ gq33 K true S L M S' L' M' idx ps path proof = some (k, h, s, l, m, c) ∧ (c ≠ 0 → k = K ∧ h = true ∧ s = S ∧ l = L ∧ m = M) := by
 obtain ⟨⟨k, h, s, l, m, c⟩, e1, e2⟩ := advance_eq K true S L M S' L' M' idx ps path proof hp hq ho
 refine ⟨k, h, s, l, m, c, e1, e2, fun hc => ?_⟩
 unfold gq32 gq32.F at e1
 obtain ⟨c0, v1, _⟩ := verify_eq K (txV S' L' M') idx ps path (by have := txV_size hs; omega) hp hq
 rw [proofCode_nil proof (by omega), bs, trustOK_i, statementOK_i, if_neg (by omega), show (decide (proof.length ≤ 64) && proof.all is32) = true by rw [decide_t h64, all32_all hpr]; rfl, if_pos rfl, bne_self_eq_false, cf, bs, ht, Bool.not_true, cf, bs, hs, Bool.not_true, cf, text_i hs, bs, v1, bs] at e1
 cases hc0 : (c0 != 0) with
 | true =>
  rw [hc0, ct] at e1
  simp only [Option.some.injEq, Prod.mk.injEq] at e1
  exact ⟨e1.1.symm, e1.2.1.symm, e1.2.2.1.symm, e1.2.2.2.1.symm, e1.2.2.2.2.1.symm⟩
 | false =>
  rw [hc0, cf] at e1
  cases hA : gq100 K true S L M S' L' M' proof with
  | none => rw [hA] at e1; cases e1
  | some c5 =>
   rw [hA, bs] at e1
   cases hc5 : (c5 != 0) with
   | true =>
    rw [hc5, ct] at e1
    simp only [Option.some.injEq, Prod.mk.injEq] at e1
    exact ⟨e1.1.symm, e1.2.1.symm, e1.2.2.1.symm, e1.2.2.2.1.symm, e1.2.2.2.2.1.symm⟩
   | false =>
    rw [hc5, cf] at e1
    simp only [Option.some.injEq, Prod.mk.injEq] at e1
    exact absurd e1.2.2.2.2.2.symm hc
theorem adv_pre (K : ByteArray) (S : Int) (L M : ByteArray) (S' : Int) (L' M' : ByteArray) (idx : Int) (ps path : List ByteArray) (ht : trOK K true S L M = true) (hs : stmOK S' L' M' = true) (hv : gq99 K (txV S' L' M') idx ps path = some 0) :
  gq32 K true S L M S' L' M' idx ps path [] = (gq100 K true S L M S' L' M' []).bind fun r5 => cond (r5 != (0 : Int)) (some (K, true, S, L, M, r5)) (some (K, true, S', L', M', (0 : Int))) := by
 unfold gq32 gq32.F
 rw [proofCode_nil [] (by simp), bs, trustOK_i, statementOK_i, if_neg (by simp), show (decide (([] : List ByteArray).length ≤ 64) && ([] : List ByteArray).all is32) = true from rfl, if_pos rfl, bne_self_eq_false, cf, bs, ht, Bool.not_true, cf, bs, hs, Bool.not_true, cf, text_i hs, bs, hv, bs, bne_self_eq_false, cf]
theorem adv_small (K : ByteArray) (S : Int) (L M : ByteArray) (S' : Int) (L' M' : ByteArray) (h : S' < S) : gq100 K true S L M S' L' M' [] = some 16 := by
 unfold gq100 gq100.F gq100.j1 gq116 gq116.F
 rw [bs]
 dsimp only
 rw [ct, decide_t h, ct]
theorem adv_other (K : ByteArray) (S : Int) (L M : ByteArray) (L' : ByteArray) (h0 : 0 < S) : gq100 K true S L M S L' M [] = some (if sEq L' L = true then 0 else 19) := by
 unfold gq100 gq100.F gq100.j1 gq100.j2 gq100.j3 gq116 gq116.F
 rw [bs]
 dsimp only
 rw [ct, decide_f (show ¬ S < S by omega), cf, ct, beq_self_eq_true, ct, sEq_self, Bool.and_true, Bool.true_and]
 cases sEq L' L with
 | false => rfl
 | true =>
  rw [Bool.not_true, cf, ct, decide_t (show S > 0 by omega), ct]
  rfl
theorem setE_all {l : List ByteArray} (h : All32 l) (i : Nat) {s : ByteArray} (hs : s.size = 32) : All32 (setE (.str : Kd) l i s) := fun t ht => by
 rw [setE_eq] at ht
 rcases List.mem_or_eq_of_mem_set ht with h1 | h1
 ·exact h t h1
 ·rw [h1]; exact hs
theorem sHash_ok (s : ByteArray) (h : s.size ≤ 65536) : ∃ v, s_Hash (bytesL s) = some v ∧ v.size = 32 := by
 unfold s_Hash s_Hash.F
 rw [bytesL_length, decide_f (by omega), cf, hash_s _ (IsBytes.bytesL s) (by rw [bytesL_length]; omega), bs]
 exact ⟨_, rfl, by rw [strL_size, sha_len]⟩
theorem sText_ok {S : Int} {L M : ByteArray} (h : stmOK S L M = true) : gq35 S L M = some (txV S L M, 0) := by
 unfold gq35 gq35.F
 rw [statement_s, bs, h, Bool.not_true, cf, text_s h, bs]
theorem iText_ok {S : Int} {L M : ByteArray} (h : stmOK S L M = true) : gq30 S L M = some (txV S L M, 0) := by
 unfold gq30 gq30.F
 rw [statementOK_i, bs, h, Bool.not_true, cf, text_i h, bs]
theorem stm_of {S : Int} {L M : ByteArray} (h0 : 0 ≤ S) (h1 : S ≤ 50) (hL : L.size = 32) (hM : M.size = 32) : stmOK S L M = true := by
 simp [stmOK, is32, h0, h1, hL, hM]
theorem pFnForks : ∀ (x0 : El (.list (.int .u8))) (x1 : El (.list (.int .u8))), (x0.length * 1 ≤ 140737488351232 ∧ x0.length ≤ maxLen ∧ ∀ y ∈ x0, (Lit.int .u8 y).wf = true) → (x1.length * 1 ≤ 140737488351232 ∧ x1.length ≤ maxLen ∧ ∀ y ∈ x1, (Lit.int .u8 y).wf = true) → gq4 x0 x1 = some true := by
 intro x0 x1 ⟨_, _, a0⟩ ⟨_, _, a1⟩
 have hb0 : IsBytes x0 := isBytes_of_wf a0
 have hb1 : IsBytes x1 := isBytes_of_wf a1
 unfold gq4 gq4.F
 by_cases h0 : (List.length (α := Int) x0 : Int) > 1048576
 ·rw [decide_t h0, ct]
 rw [decide_f h0, cf]
 by_cases h1 : (List.length (α := Int) x1 : Int) > 1048576
 ·rw [decide_t h1, ct]
 rw [decide_f h1, cf]
 obtain ⟨a, e1, ha, ha40⟩ := leavesOf_eq x0 hb0 (by omega)
 rw [e1, bs]
 by_cases h2 : (a.length : Int) < 2
 ·rw [decide_t h2, ct]
 rw [decide_f h2, cf]
 by_cases h3 : (a.length : Int) > 40
 ·rw [decide_t h3, ct]
 rw [decide_f h3, cf]
 obtain ⟨seed, e2, hseed⟩ := hashOf_eq x1 hb1 (by omega)
 obtain ⟨vals, e3, hvals⟩ := hashOf_eq x0 hb0 (by omega)
 obtain ⟨d, e4, hd0, hd1⟩ := at_eq x1 hb1 (by omega) 0 ((a.length : Int) - 1) (by decide) (by decide) (by omega) (by omega)
 rw [e2, bs]
 obtain ⟨p0, root, _, e5, hroot, _⟩ := sign_s seed hseed 0 (by decide) (by decide) ByteArray.empty (by decide)
 rw [e5, bs, wr (x := (a.length : Int) - 1) (by omega) (by omega), e4, bs, wr (x := 1 + d) (by omega) (by omega)]
 obtain ⟨old, hold⟩ : ∃ old, 1 + d = old := ⟨_, rfl⟩
 rw [hold]
 have ho1 : 1 ≤ old := by omega
 have ho2 : old < a.length := by omega
 have hsub := sub_length a (a := 0) (b := old) (by decide) (by omega) (by omega)
 obtain ⟨log, e6, hlog⟩ := sTreeHash_ok (sub a 0 old) (by omega) (by omega) (ha.sub _ _)
 obtain ⟨q, e7, hq0, hq1⟩ := at_eq x1 hb1 (by omega) 1 old (by decide) (by decide) (by omega) (by omega)
 have hmn : 0 ≤ mn2 (9 : Int) (List.length (α := Int) x1 : Int) ∧ mn2 (9 : Int) (List.length (α := Int) x1 : Int) ≤ (List.length (α := Int) x1 : Int) ∧ mn2 (9 : Int) (List.length (α := Int) x1 : Int) ≤ 9 := by unfold mn2; split <;> omega
 have hs9 := sub_length (α := Int) x1 (a := 0) (b := mn2 (9 : Int) (List.length (α := Int) x1 : Int)) (by decide) hmn.1 hmn.2.1
 have h12 : ByteArray.size (⟨#[97, 110, 111, 116, 104, 101, 114, 32, 108, 101, 97, 102]⟩ : ByteArray) = 12 := rfl
 obtain ⟨nl, e8, hnl⟩ := sHash_ok ((⟨#[97, 110, 111, 116, 104, 101, 114, 32, 108, 101, 97, 102]⟩ : ByteArray) ++ (strL (sub x1 (0 : Int) (mn2 (9 : Int) (List.length (α := Int) x1 : Int))))) (by rw [ByteArray.size_append, h12, strL_size]; omega)
 rw [grd_of (gSl_t (by decide) (by omega) (by omega)), e6, bs, e3, bs, grd_of (gRm_t (by simp; omega)), e7, bs, grd_of (gSl_t (by decide) hmn.1 hmn.2.1), grd_of (gCat_t (by rw [h12, strL_size]; omega)), e8, bs, List.nil_append, grd_of (gIx_t hq0 (by omega))]
 dsimp only
 obtain ⟨b, hbe⟩ : ∃ b : List ByteArray, setE (.str : Kd) a q.toNat nl = b := ⟨_, rfl⟩
 have hb32 : All32 b := hbe ▸ setE_all ha q.toNat hnl
 have hbl : b.length = a.length := by rw [← hbe]; exact setE_length (k := .str) a q.toNat nl
 rw [hbe]
 obtain ⟨proof, e9, hp32, hp64⟩ := consist_ok b old (by omega) hb32 ho1 (by omega)
 obtain ⟨all, e10, hall⟩ := treeHash_ok b (by omega) hb32
 have hst := stm_of (S := (b.length : Int)) (L := all) (M := vals) (by omega) (by omega) hall hvals
 have htx := txV_size hst
 obtain ⟨ix, ps, pa, e11, hps, hpa⟩ := sign_tot seed hseed (txV (b.length : Int) all vals) (by omega)
 have htr : trOK root true old log vals = true := by
  unfold trOK
  rw [cond_true, stm_of (by omega) (by omega) hlog hvals]
  simp [is32, hroot]
 obtain ⟨k, h, s, l, m, c, f1, f2, f3⟩ := adv_t root old log vals (b.length : Int) all vals ix ps pa proof hps hpa (by omega) htr hst hp32 hp64
 rw [e9, bs, e10, bs]
 dsimp only
 rw [iText_ok hst, bs]
 dsimp only
 rw [e11, bs]
 dsimp only
 rw [f1, bs, f2, bs, iStm_hit _ _ _ hst, bs]
 dsimp only
 unfold gq4.j1
 have hsm := stm_of (S := old - 1) (L := log) (M := vals) (by omega) (by omega) hlog hvals
 have hot := stm_of (S := old) (L := all) (M := vals) (by omega) (by omega) hall hvals
 have htx1 := txV_size hsm
 have htx2 := txV_size hot
 obtain ⟨p1, r1, s1, s2, s3, s4, s5, s6⟩ := sign_s seed hseed 1 (by decide) (by decide) (txV (old - 1) log vals) (by omega)
 obtain rfl : root = r1 := by
  have := Option.some.inj (e5.symm.trans s2)
  exact (Prod.mk.inj this).1
 obtain ⟨p2, r2, t1, t2, t3, t4, t5, t6⟩ := sign_s seed hseed 2 (by decide) (by decide) (txV old all vals) (by omega)
 obtain rfl : root = r2 := by
  have := Option.some.inj (e5.symm.trans t2)
  exact (Prod.mk.inj this).1
 have g1 := adv_pre root old log vals (old - 1) log vals 1 _ p1 htr hsm (verify_hit seed root _ 1 (by decide) (by decide) p1 (by omega) hroot s4 s5 s6)
 have g2 := adv_pre root old log vals old all vals 2 _ p2 htr hot (verify_hit seed root _ 2 (by decide) (by decide) p2 (by omega) hroot t4 t5 t6)
 rw [adv_small _ _ _ _ _ _ _ (by omega), bs, show ((16 : Int) != 0) = true from rfl, ct] at g1
 rw [adv_other _ _ _ _ _ (by omega), bs] at g2
 have tail : ((gq35 (IntKind.wrap .i64 (old - (1 : Int))) log vals).bind fun r15 =>
   (gq36 seed (1 : Int) r15.1).bind fun r16 =>
   (gq32 root true old log vals (IntKind.wrap .i64 (old - (1 : Int))) log vals r16.1 r16.2.1 r16.2.2.1 []).bind fun r17 =>
   cond (r17.2.2.2.2.2 != (16 : Int)) (some false) (
    (gq35 old all vals).bind fun r18 =>
    (gq36 seed (2 : Int) r18.1).bind fun r19 =>
    (gq32 root true old log vals old all vals r19.1 r19.2.1 r19.2.2.1 []).bind fun r20 =>
    cond (r20.2.2.2.2.2 == (19 : Int)) (some true) (cond (sEq all log) (some (r20.2.2.2.2.2 == (0 : Int))) (some false)))) = some true := by
  rw [wr (by omega) (by omega), sText_ok hsm, bs]
  dsimp only
  rw [s1, bs]
  dsimp only
  rw [g1, bs]
  dsimp only
  rw [bne_self_eq_false, cf, sText_ok hot, bs]
  dsimp only
  rw [t1, bs]
  dsimp only
  rw [g2]
  cases hE : sEq all log with
  | true => rfl
  | false => rfl
 simp only [sEq_self, beq_self_eq_true, Bool.and_self, Bool.not_true, cf, bne_self_eq_false]
 by_cases hc : c = 0
 ·subst hc
  simp only [bne_self_eq_false, cf]
  exact tail
 ·obtain ⟨rfl, rfl, rfl, rfl, rfl⟩ := f3 hc
  rw [show (c != 0) = true by simpa using hc, ct]
  simp only [sEq_self, beq_self_eq_true, Bool.and_self, Bool.not_true, cf]
  exact tail
end Go.Proofs.YtdhifkdijlghdaaGreatDoorA
