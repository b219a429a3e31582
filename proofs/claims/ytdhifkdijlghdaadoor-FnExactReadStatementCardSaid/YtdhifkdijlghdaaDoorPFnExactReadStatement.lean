import Derived.Test.YtdhifkdijlghdaaDoorAWord
import Derived.Laws.BytesArg
import Derived.Lib.Strings
import Derived.Test.YtdhifkdijlghdaaDoorXdF0
import Derived.Lib.ItoaNum
import Derived.Lib.Split
import Derived.Lib.SplitLaws
import Derived.Lib.IndexBytes
import Derived.Lib.CountLaws
import Derived.Lib.SlTrimSet
namespace Go.Proofs.YtdhifkdijlghdaaDoorA
open Go
set_option linter.unusedVariables false
set_option linter.unusedSimpArgs false
theorem bs {A B : Type} (a : A) (f : A → Option B) : Option.bind (some a) f = f a := id rfl
theorem ct {A : Type} (a b : A) : cond true a b = a := id rfl
theorem cf {A : Type} (a b : A) : cond false a b = b := id rfl
theorem grd_t {R : Type} (x : Option R) : grd true x = x := rfl
theorem grd_of {R : Type} {g : Bool} (h : g = true) (x : Option R) : grd g x = x := by rw [h]; rfl
theorem gIx_t {i : Int} {n : Nat} (h : 0 ≤ i) (h' : i < n) : gIx i n = true := by simp [gIx, h, h']
theorem gSl_t {l h : Int} {n : Nat} (h0 : 0 ≤ l) (h1 : l ≤ h) (h2 : h ≤ n) : gSl l h n = true := by simp [gSl, h0, h1, h2]
theorem gRm_t {n : Nat} (h : n ≤ 140737488355328) : gRm n = true := by simp [gRm, h]
theorem gCat_t {x y : ByteArray} (h : x.size + y.size ≤ 9223372036854775807) : gCat x y = true := by
 unfold gCat
 rw [decide_eq_true_iff]
 omega
theorem gSh_t {y : Int} (h : 0 ≤ y) : gSh y = true := by simp [gSh, h]
theorem gNz_t {y : Int} (h : y ≠ 0) : gNz y = true := by simp [gNz, h]
theorem wr {x : Int} (h : -9223372036854775808 ≤ x) (h' : x ≤ 9223372036854775807) : IntKind.wrap .i64 x = x := by
 simp only [IntKind.wrap, IntKind.signed, IntKind.bits]
 simp
 omega
theorem wr8 {x : Int} (h : 0 ≤ x) (h' : x < 256) : IntKind.wrap .u8 x = x := by
 simp only [IntKind.wrap, IntKind.signed, IntKind.bits]
 simp
 omega
theorem wr8m (x : Int) : IntKind.wrap .u8 x = x % 256 := by
 simp only [IntKind.wrap, IntKind.signed, IntKind.bits]
 simp
theorem shl_eq {x : Int} {n : Int} (h0 : 0 ≤ n) (h1 : n ≤ 64) : iShl .i64 x n = IntKind.wrap .i64 (x * 2 ^ n.toNat) := by
 unfold iShl
 congr 3
 simp [IntKind.bits]
 omega
theorem tmod_pos {x y : Int} (h : 0 ≤ x) : Int.tmod x y = x % y := Int.tmod_eq_emod_of_nonneg h
theorem tdiv_pos {x y : Int} (h : 0 ≤ x) : Int.tdiv x y = x / y := Int.tdiv_eq_ediv_of_nonneg h
def IsBytes (l : List Int) : Prop := ∀ y ∈ l, 0 ≤ y ∧ y < 256
theorem IsBytes.nil : IsBytes [] := fun y h => by simp at h
theorem IsBytes.cons {a : Int} {l : List Int} (h0 : 0 ≤ a) (h1 : a < 256) (h : IsBytes l) : IsBytes (a :: l) := fun y hy => by
 rcases List.mem_cons.1 hy with rfl | hy
 ·exact ⟨h0, h1⟩
 ·exact h y hy
theorem IsBytes.append {l m : List Int} (h : IsBytes l) (h' : IsBytes m) : IsBytes (l ++ m) := fun y hy => (List.mem_append.1 hy).elim (h y) (h' y)
theorem IsBytes.drop {l : List Int} (h : IsBytes l) (n : Nat) : IsBytes (l.drop n) := fun y hy => h y (List.mem_of_mem_drop hy)
theorem IsBytes.take {l : List Int} (h : IsBytes l) (n : Nat) : IsBytes (l.take n) := fun y hy => h y (List.mem_of_mem_take hy)
theorem IsBytes.sub {l : List Int} (h : IsBytes l) (a b : Int) : IsBytes (sub l a b) := (h.take _).drop _
theorem IsBytes.get {l : List Int} (h : IsBytes l) {i : Nat} (hi : i < l.length) : 0 ≤ l[i] ∧ l[i] < 256 := h _ (List.getElem_mem _)
theorem IsBytes.bytesL (s : ByteArray) : IsBytes (bytesL s) := fun y hy => by
 obtain ⟨b, _, rfl⟩ := List.mem_map.1 hy
 have := b.toNat_lt
 omega
theorem ba_ext {a b : ByteArray} (h : a.data.toList = b.data.toList) : a = b := by
 obtain ⟨⟨l⟩⟩ := a
 obtain ⟨⟨m⟩⟩ := b
 simp at h
 subst h
 rfl
theorem strL_size (l : List Int) : (strL l).size = l.length := by
 show (List.toArray _).size = _
 simp
theorem bytesL_length (s : ByteArray) : (bytesL s).length = s.size := by simp [bytesL]
theorem strL_list (l : List Int) : (strL l).data.toList = l.map fun n => UInt8.ofNat n.toNat := by simp [strL]
theorem strL_bytesL (s : ByteArray) : strL (bytesL s) = s := by
 apply ba_ext
 rw [strL_list, bytesL, List.map_map]
 conv => rhs; rw [← List.map_id s.data.toList]
 apply List.map_congr_left
 intro b _
 simp
theorem strL_append (l m : List Int) : strL l ++ strL m = strL (l ++ m) := by
 apply ba_ext
 rw [ByteArray.data_append, Array.toList_append, strL_list, strL_list, strL_list, List.map_append]
theorem cut_strL (l : List Int) (a b : Int) : cut (strL l) a b = strL (sub l a b) := by
 apply ba_ext
 unfold cut sub
 rw [Lib.extract_data, strL_list, strL_list, ← List.map_drop, ← List.map_take, List.drop_take]
theorem byteAt_strL {l : List Int} (h : IsBytes l) {i : Int} (h0 : 0 ≤ i) (h1 : i < l.length) : byteAt (strL l) i = l.getD i.toNat 0 := by
 have hi : i.toNat < l.length := by omega
 have hs : i.toNat < (strL l).size := by rw [strL_size]; exact hi
 unfold byteAt
 rw [dif_pos hs]
 have e : (strL l)[i.toNat]'hs = UInt8.ofNat (l[i.toNat]).toNat := by
  show (strL l).data[i.toNat]'_ = _
  simp [strL]
 rw [e, List.getD_eq_getElem?_getD, List.getElem?_eq_getElem hi]
 have := h l[i.toNat] (List.getElem_mem _)
 simp
 omega
theorem sEq_iff {a b : ByteArray} : sEq a b = true ↔ a = b := by
 unfold sEq
 rw [beq_iff_eq]
 constructor
 ·intro h
  apply ba_ext
  rwa [ByteArray.toList_eq, ByteArray.toList_eq] at h
 ·rintro rfl; rfl
theorem sEq_self (a : ByteArray) : sEq a a = true := sEq_iff.2 rfl
theorem sEq_dec (a b : ByteArray) : sEq a b = decide (a = b) := by rw [Bool.eq_iff_iff, sEq_iff, decide_eq_true_iff]
theorem rdE_at {k : Kd} {l : List (El k)} {i : Nat} (h : i < l.length) : rdE k l i = l[i] := by
 unfold rdE
 rw [List.getD_eq_getElem?_getD, List.getElem?_eq_getElem h]
 rfl
theorem take_snoc {α : Type} {l : List α} {i : Nat} (h : i < l.length) : l.take (i + 1) = l.take i ++ [l[i]] := by
 rw [List.take_add_one, List.getElem?_eq_getElem h]
 rfl
theorem drop_cons {α : Type} {l : List α} {i : Nat} (h : i < l.length) : l.drop i = l[i] :: l.drop (i + 1) := List.drop_eq_getElem_cons h
theorem decide_t {p : Prop} [Decidable p] (h : p) : decide p = true := decide_eq_true h
theorem decide_f {p : Prop} [Decidable p] (h : ¬ p) : decide p = false := decide_eq_false h
end Go.Proofs.YtdhifkdijlghdaaDoorA
namespace Go.Proofs.YtdhifkdijlghdaaDoorA
open Go
set_option linter.unusedVariables false
set_option linter.unusedSimpArgs false
theorem within_eq (n lo hi : Int) : gq30 n lo hi = some (decide (lo ≤ n) && decide (n ≤ hi)) := by
 unfold gq30 gq30.F
 by_cases h : n ≥ lo
 ·simp [h]
 ·simp [h]
theorem l01In_eq (n lo hi : Int) : gq19 n lo hi = some (decide (lo ≤ n) && decide (n ≤ hi)) := by
 unfold gq19 gq19.F
 by_cases h : n ≥ lo
 ·simp [h]
 ·simp [h]
end Go.Proofs.YtdhifkdijlghdaaDoorA
namespace Go.Proofs.YtdhifkdijlghdaaDoorA
open Go
set_option linter.unusedVariables false
set_option linter.unusedSimpArgs false
end Go.Proofs.YtdhifkdijlghdaaDoorA
namespace Go.Proofs.YtdhifkdijlghdaaDoorA
open Go
set_option linter.unusedVariables false
set_option linter.unusedSimpArgs false
end Go.Proofs.YtdhifkdijlghdaaDoorA
namespace Go.Proofs.YtdhifkdijlghdaaDoorA
open Go
set_option linter.unusedVariables false
set_option linter.unusedSimpArgs false
end Go.Proofs.YtdhifkdijlghdaaDoorA
namespace Go.Proofs.YtdhifkdijlghdaaDoorA
open Go
set_option linter.unusedVariables false
set_option linter.unusedSimpArgs false
theorem find_loop {k : Kd} {R : Type} {L : Nat → List (El k) → Int → Int → Option R} {f : El k → Option (Bool × Unit)} {kke : Option R} {kkr : Int → Option R}
  (hL : ∀ n s i j, L (n + 1) s i j = cond (decide (j < i)) (grd (gIx j (List.length s)) ((f (rdE k s (Int.toNat j))).bind fun r => cond r.1 (kkr j) (L n s i (IntKind.wrap .i64 (j + 1))))) kke)
  {q : El k → Bool} {l : List (El k)} (hl : l.length ≤ 9223372036854775806) (hf : ∀ x ∈ l, f x = some (q x, ())) :
  ∀ (m n j : Nat), j + m = l.length → m < n → L n l l.length j = match (l.drop j).findIdx? q with | none => kke | some d => kkr ((j + d : Nat) : Int)
 | 0, n + 1, j, e, _ => by
  rw [hL, decide_f (by omega : ¬ (j : Int) < l.length), cond_false, List.drop_of_length_le (by omega)]
  rfl
 | m + 1, n + 1, j, e, h => by
  have hj : j < l.length := by omega
  rw [hL, decide_t (by omega : (j : Int) < l.length), cond_true, grd_of (gIx_t (by omega) (by omega)), Int.toNat_natCast, rdE_at hj, hf _ (List.getElem_mem hj), Option.bind_some, drop_cons hj, List.findIdx?_cons]
  cases hq : q l[j] with
  | true => simp
  | false =>
   simp only [cond_false, Bool.false_eq_true, if_false]
   rw [wr (by omega) (by omega), show ((j : Int) + 1) = ((j + 1 : Nat) : Int) by omega, find_loop hL hl hf m n (j + 1) (by omega) (by omega)]
   cases (l.drop (j + 1)).findIdx? q with
   | none => rfl
   | some d => simp only [Option.map_some]; congr 1; omega
theorem findIdx_any {α : Type} (l : List α) (q : α → Bool) : (l.findIdx? q).isSome = l.any q := by
 induction l with
 | nil => rfl
 | cons x l ih =>
  rw [List.findIdx?_cons, List.any_cons]
  cases q x with
  | true => simp
  | false => simp [ih]
end Go.Proofs.YtdhifkdijlghdaaDoorA
namespace Go.Proofs.YtdhifkdijlghdaaDoorA
open Go
set_option linter.unusedVariables false
set_option linter.unusedSimpArgs false
end Go.Proofs.YtdhifkdijlghdaaDoorA
namespace Go.Proofs.YtdhifkdijlghdaaDoorA
open Go
set_option linter.unusedVariables false
set_option linter.unusedSimpArgs false
end Go.Proofs.YtdhifkdijlghdaaDoorA
namespace Go.Proofs.YtdhifkdijlghdaaDoorA
open Go
set_option linter.unusedVariables false
set_option linter.unusedSimpArgs false
end Go.Proofs.YtdhifkdijlghdaaDoorA
namespace Go.Proofs.YtdhifkdijlghdaaDoorA
open Go
set_option linter.unusedVariables false
set_option linter.unusedSimpArgs false
theorem fuel_big {n : Nat} (h : n < 18446744073709551616) : n < fuel := by rw [fuel_eq]; exact h
end Go.Proofs.YtdhifkdijlghdaaDoorA
namespace Go.Proofs.YtdhifkdijlghdaaDoorA
open Go
set_option linter.unusedVariables false
set_option linter.unusedSimpArgs false
def Small (p : List ByteArray) : Prop := p.length ≤ 100000000 ∧ ∀ s ∈ p, s.size ≤ 1000000
theorem Small.drop {p : List ByteArray} (h : Small p) (n : Nat) : Small (p.drop n) := ⟨by have := h.1; simp; omega, fun s hs => h.2 s (List.mem_of_mem_drop hs)⟩
end Go.Proofs.YtdhifkdijlghdaaDoorA
namespace Go.Proofs.YtdhifkdijlghdaaDoorA
open Go
set_option linter.unusedVariables false
set_option linter.unusedSimpArgs false
end Go.Proofs.YtdhifkdijlghdaaDoorA
namespace Go.Proofs.YtdhifkdijlghdaaDoorA
open Go
set_option linter.unusedVariables false
set_option linter.unusedSimpArgs false
end Go.Proofs.YtdhifkdijlghdaaDoorA
namespace Go.Proofs.YtdhifkdijlghdaaDoorA
open Go
set_option linter.unusedVariables false
set_option linter.unusedSimpArgs false
end Go.Proofs.YtdhifkdijlghdaaDoorA
namespace Go.Proofs.YtdhifkdijlghdaaDoorA
open Go
set_option linter.unusedVariables false
set_option linter.unusedSimpArgs false
end Go.Proofs.YtdhifkdijlghdaaDoorA
namespace Go.Proofs.YtdhifkdijlghdaaDoorA
open Go
set_option linter.unusedVariables false
set_option linter.unusedSimpArgs false
theorem any_not_all {α : Type} (q : α → Bool) (l : List α) : (!(l.any fun x => !q x)) = l.all q := by
 induction l with
 | nil => rfl
 | cons x l ih => rw [List.any_cons, List.all_cons, ← ih]; cases q x <;> simp
def is32 (t : ByteArray) : Bool := decide (t.size = 32)
theorem isHash_eq (l : List ByteArray) (h : l.length ≤ 1000000000) : gq31 l = some (l.all is32) := by
 unfold gq31 gq31.F gq22 gq22.F gq33 gq33.F
 have hq : ∀ x ∈ l, (fun x : ByteArray => (fun t : ByteArray × Unit => (gq49 t.1).bind fun a => some (a, ())) (x, ())) x = some (!is32 x, ()) := by
  intro x _
  have : ((x.size : Int) != 32) = !is32 x := by
   rw [Bool.eq_iff_iff, bne_iff_ne, is32, Bool.not_eq_true', decide_eq_false_iff_not]
   omega
  simp only [gq49, gq49.F, bs, this]
 have := find_loop (k := .str) (L := gq33.l1 (fun t => (gq49 t.1).bind fun a => some (a, ())) (some (-1 : Int)) (fun i => some i)) (fun n s i j => rfl) (l := l) (by omega) hq l.length fuel 0 (by omega) (fuel_big (by omega))
 rw [Int.natCast_zero] at this
 rw [this, List.drop_zero, ← any_not_all, ← findIdx_any]
 cases l.findIdx? fun x => !is32 x with
 | none => rfl
 | some d => simp
def stmOK (S : Int) (L M : ByteArray) : Bool := (decide (0 ≤ S) && decide (S ≤ 50)) && (is32 L && is32 M)
theorem statementOK_i (S : Int) (L M : ByteArray) : gq16 S L M = some (stmOK S L M) := by
 unfold gq16 gq16.F stmOK
 rw [within_eq, bs, isHash_eq [L, M] (by simp), bs]
 cases (decide (0 ≤ S) && decide (S ≤ 50)) with
 | false => rw [cf, Bool.false_and]
 | true => rw [ct, Bool.true_and]; simp
theorem size32 (t : ByteArray) : ((t.size : Int) == 32) = is32 t := by
 rw [Bool.eq_iff_iff, beq_iff_eq, is32, decide_eq_true_iff]
 omega
theorem statement_s (S : Int) (L M : ByteArray) : gq10 S L M = some (stmOK S L M) := by
 unfold gq10 gq10.F stmOK
 rw [l01In_eq, bs, size32, size32]
 cases (decide (0 ≤ S) && decide (S ≤ 50)) with
 | false => rw [cf, Bool.false_and]
 | true =>
  rw [ct, Bool.true_and]
  cases is32 L <;> rfl
end Go.Proofs.YtdhifkdijlghdaaDoorA
namespace Go.Proofs.YtdhifkdijlghdaaDoorA
open Go
set_option linter.unusedVariables false
set_option linter.unusedSimpArgs false
end Go.Proofs.YtdhifkdijlghdaaDoorA
namespace Go.Proofs.YtdhifkdijlghdaaDoorA
open Go
set_option linter.unusedVariables false
set_option linter.unusedSimpArgs false
def isTx (t : ByteArray) : Bool := decide (t.size ≤ 65536)
theorem isText_eq (l : List ByteArray) (h : l.length ≤ 1000000000) : gq12 l = some (l.all isTx) := by
 unfold gq12 gq12.F gq22 gq22.F gq33 gq33.F
 have hq : ∀ x ∈ l, (fun x : ByteArray => (fun t : ByteArray × Unit => (gq23 t.1).bind fun a => some (a, ())) (x, ())) x = some (!isTx x, ()) := by
  intro x _
  have : decide ((x.size : Int) > 65536) = !isTx x := by
   rw [Bool.eq_iff_iff, decide_eq_true_iff, isTx, Bool.not_eq_true', decide_eq_false_iff_not]
   omega
  simp only [gq23, gq23.F, bs, this]
 have := find_loop (k := .str) (L := gq33.l1 (fun t => (gq23 t.1).bind fun a => some (a, ())) (some (-1 : Int)) (fun i => some i)) (fun n s i j => rfl) (l := l) (by omega) hq l.length fuel 0 (by omega) (fuel_big (by omega))
 rw [Int.natCast_zero] at this
 rw [this, List.drop_zero, ← any_not_all, ← findIdx_any]
 cases l.findIdx? fun x => !isTx x with
 | none => rfl
 | some d => simp
end Go.Proofs.YtdhifkdijlghdaaDoorA
namespace Go.Proofs.YtdhifkdijlghdaaDoorA
open Go
set_option linter.unusedVariables false
set_option linter.unusedSimpArgs false
theorem hi8 {x : Int} (h0 : 0 ≤ x) (h1 : x < 256) : iShr .u8 x 4 = x / 16 := by
 unfold iShr
 rw [show min (4 : Int).toNat (IntKind.bits .u8) = 4 from rfl, Int.fdiv_eq_ediv_of_nonneg _ (by decide)]
 rfl
theorem lo8 {x : Int} (h0 : 0 ≤ x) (h1 : x < 256) : iAnd .u8 x 15 = x % 16 := by
 obtain ⟨n, rfl⟩ : ∃ n : Nat, x = n := ⟨x.toNat, by omega⟩
 unfold iAnd bits
 rw [BitVec.toNat_and, BitVec.ofInt_natCast, BitVec.toNat_ofNat, Nat.mod_eq_of_lt (show n < 2 ^ IntKind.bits .u8 from by simp [IntKind.bits]; omega), show (BitVec.ofInt (IntKind.bits .u8) 15).toNat = 2 ^ 4 - 1 from rfl, Nat.and_two_pow_sub_one_eq_mod, wr8m]
 omega
def hxD : ByteArray := ⟨#[48, 49, 50, 51, 52, 53, 54, 55, 56, 57, 97, 98, 99, 100, 101, 102]⟩
theorem hxD_byte (i : Int) : 0 ≤ byteAt hxD i ∧ byteAt hxD i < 256 := by
 unfold byteAt
 split
 ·have := (hxD[i.toNat]).toNat_lt
  omega
 ·omega
def hexL : List Int → List Int
 | [] => []
 | x :: l => byteAt hxD (x / 16) :: byteAt hxD (x % 16) :: hexL l
theorem hexL_len : ∀ l : List Int, (hexL l).length = 2 * l.length
 | [] => rfl
 | x :: l => by simp only [hexL, List.length_cons, hexL_len l]; omega
theorem hex_i {R : Type} (kke : List Int → Option R) (l : List Int) (hb : IsBytes l) (hl : l.length ≤ 1000000) : ∀ (m fu j : Nat) (out : List Int), j + m = l.length → m < fu → out.length + 2 * m ≤ 10000000 →
  gq32.l1 kke fu (strL l) (l.length : Int) (j : Int) out = kke (out ++ hexL (l.drop j))
 | 0, fu + 1, j, out, e, _, _ => by
  simp only [gq32.l1]
  rw [decide_f (by omega), cf, List.drop_of_length_le (by omega), hexL, List.append_nil]
 | m + 1, fu + 1, j, out, e, hf, ho => by
  have hj : j < l.length := by omega
  have hx := hb.get hj
  simp only [gq32.l1]
  rw [decide_t (by omega), ct, grd_of (gIx_t (by omega) (by rw [strL_size]; omega)), grd_of (gSh_t (by decide)), byteAt_strL hb (by omega) (by omega), Int.toNat_natCast, List.getD_eq_getElem?_getD, List.getElem?_eq_getElem hj, Option.getD_some, hi8 hx.1 hx.2, lo8 hx.1 hx.2,
   grd_of (gIx_t (by omega) (by show l[j] / 16 < 16; omega)), grd_of (gIx_t (by omega) (by rw [strL_size]; omega)), grd_of (gIx_t (by omega) (by show l[j] % 16 < 16; omega)), grd_of (gRm_t (by simp; omega)), wr (by omega) (by omega), show ((j : Int) + 1) = ((j + 1 : Nat) : Int) by omega,
   hex_i kke l hb hl m fu (j + 1) _ (by omega) (by omega) (by simp; omega), drop_cons hj, List.append_assoc]
  rfl
theorem hex_s {R : Type} (kke : List Int → Option R) (l : List Int) (hb : IsBytes l) (hl : l.length ≤ 1000000) : ∀ (m fu j : Nat) (out : List Int), j + m = l.length → m < fu → out.length + 2 * m ≤ 10000000 →
  gq21.l1 kke fu (strL l) (j : Int) out = kke (out ++ hexL (l.drop j))
 | 0, fu + 1, j, out, e, _, _ => by
  simp only [gq21.l1]
  rw [strL_size, decide_f (by omega), cf, List.drop_of_length_le (by omega), hexL, List.append_nil]
 | m + 1, fu + 1, j, out, e, hf, ho => by
  have hj : j < l.length := by omega
  have hx := hb.get hj
  simp only [gq21.l1]
  rw [strL_size, decide_t (by omega), ct, grd_of (gIx_t (by omega) (by omega)), grd_of (gNz_t (by decide)), byteAt_strL hb (by omega) (by omega), Int.toNat_natCast, List.getD_eq_getElem?_getD, List.getElem?_eq_getElem hj, Option.getD_some, tdiv_pos hx.1, tmod_pos hx.1, wr8 (x := l[j] / 16) (by omega) (by omega),
   grd_of (gIx_t (by omega) (by show l[j] / 16 < 16; omega)), grd_of (gIx_t (by omega) (by omega)), grd_of (gNz_t (by decide)), grd_of (gIx_t (by omega) (by show l[j] % 16 < 16; omega)), grd_of (gRm_t (by simp; omega)), wr (by omega) (by omega), show ((j : Int) + 1) = ((j + 1 : Nat) : Int) by omega,
   hex_s kke l hb hl m fu (j + 1) _ (by omega) (by omega) (by simp; omega), drop_cons hj, List.append_assoc]
  rfl
def hexV (s : ByteArray) : ByteArray := strL (hexL (bytesL s))
theorem hexV_i (s : ByteArray) (h : s.size ≤ 1000000) : gq32 s = some (hexV s) := by
 unfold gq32 gq32.F
 have := hex_i (fun out => some (strL out)) (bytesL s) (IsBytes.bytesL s) (by rw [bytesL_length]; exact h) (bytesL s).length fuel 0 [] (by omega) (fuel_big (by rw [bytesL_length]; omega)) (by rw [bytesL_length]; simp; omega)
 rw [Int.natCast_zero, List.drop_zero, List.nil_append, strL_bytesL, bytesL_length] at this
 exact this
theorem hexV_s (s : ByteArray) (h : s.size ≤ 1000000) : gq21 s = some (hexV s) := by
 unfold gq21 gq21.F
 have := hex_s (fun out => some (strL out)) (bytesL s) (IsBytes.bytesL s) (by rw [bytesL_length]; exact h) (bytesL s).length fuel 0 [] (by omega) (fuel_big (by rw [bytesL_length]; omega)) (by rw [bytesL_length]; simp; omega)
 rw [Int.natCast_zero, List.drop_zero, List.nil_append, strL_bytesL] at this
 exact this
theorem hexV_size (s : ByteArray) : (hexV s).size = 2 * s.size := by rw [hexV, strL_size, hexL_len, bytesL_length]
def numL (n : Int) : List Int := if n < 10 then [48 + n] else [48 + n / 10, 48 + n % 10]
theorem num_s (n : Int) (h0 : 0 ≤ n) (h1 : n < 100) : gq20 fuel n = some (strL (numL n)) := by
 obtain ⟨q, hq⟩ : ∃ q, fuel = q + 1 + 1 := ⟨fuel - 2, by rw [fuel_eq]⟩
 have one : ∀ (f : Nat) (d : Int), 0 ≤ d → d < 10 → gq20 (f + 1) d = some (strL [48 + d]) := fun f d k0 k1 => by
  unfold gq20 gq20.F
  rw [show (d == -9223372036854775808) = false by rw [beq_eq_false_iff_ne]; omega, cf, decide_f (by omega), cf, decide_t k1, ct, wr (by omega) (by omega), wr8 (by omega) (by omega)]
 rw [hq]
 unfold numL
 by_cases h : n < 10
 ·rw [if_pos h, one (q + 1) n h0 h]
 ·rw [if_neg h, gq20]
  unfold gq20.F
  rw [show (n == -9223372036854775808) = false by rw [beq_eq_false_iff_ne]; omega, cf, decide_f (by omega), cf, decide_f h, cf, grd_of (gNz_t (by decide)), tdiv_pos h0, tmod_pos h0, wr (x := n / 10) (by omega) (by omega), one q (n / 10) (by omega) (by omega), bs, grd_of (gNz_t (by decide)), wr (by omega) (by omega), wr8 (by omega) (by omega), grd_of (gCat_t (by rw [strL_size, strL_size]; simp)), strL_append]
  rfl
theorem num_i (n : Int) (h0 : 0 ≤ n) (h1 : n < 100) : gq26 n = some (strL (numL n)) := by
 rw [gq26_eq]
 unfold gq26.F
 rw [decide_t h0, decide_t h1, Bool.and_self, grd_t, itoaS_eq]
 congr 1
 apply ba_ext
 rw [strL_list]
 show Lib.decDigits n.toNat = _
 obtain ⟨q, rfl⟩ : ∃ q : Nat, n = q := ⟨n.toNat, by omega⟩
 rw [Int.toNat_natCast]
 unfold numL
 by_cases h : (q : Int) < 10
 ·rw [if_pos h, Lib.decDigits, dif_pos (by omega)]
  simp only [List.map_cons, List.map_nil]
  rw [show ((48 : Int) + (q : Int)).toNat = 48 + q by omega]
 ·rw [if_neg h, Lib.decDigits, dif_neg (by omega), Lib.decDigits, dif_pos (by omega)]
  simp only [List.map_cons, List.map_nil, List.cons_append, List.nil_append]
  rw [show ((48 : Int) + (q : Int) / 10).toNat = 48 + q / 10 by omega, show ((48 : Int) + (q : Int) % 10).toNat = 48 + q % 10 by omega]
theorem numL_len (n : Int) : (numL n).length ≤ 2 := by
 unfold numL
 split <;> simp
def txV (S : Int) (L M : ByteArray) : ByteArray := ((((((⟨#[115, 105, 122, 101, 32]⟩ : ByteArray) ++ strL (numL S)) ++ (⟨#[32, 108, 111, 103, 32]⟩ : ByteArray)) ++ hexV L) ++ (⟨#[32, 109, 97, 112, 32]⟩ : ByteArray)) ++ hexV M)
theorem stm_parts {S : Int} {L M : ByteArray} (h : stmOK S L M = true) : (0 ≤ S ∧ S ≤ 50) ∧ L.size = 32 ∧ M.size = 32 := by
 unfold stmOK at h
 rw [Bool.and_eq_true, Bool.and_eq_true, Bool.and_eq_true, decide_eq_true_iff, decide_eq_true_iff] at h
 exact ⟨h.1, of_decide_eq_true h.2.1, of_decide_eq_true h.2.2⟩
theorem sz5a : ByteArray.size (⟨#[115, 105, 122, 101, 32]⟩ : ByteArray) = 5 := rfl
theorem sz5b : ByteArray.size (⟨#[32, 108, 111, 103, 32]⟩ : ByteArray) = 5 := rfl
theorem sz5c : ByteArray.size (⟨#[32, 109, 97, 112, 32]⟩ : ByteArray) = 5 := rfl
theorem txV_size {S : Int} {L M : ByteArray} (h : stmOK S L M = true) : (txV S L M).size ≤ 200 := by
 obtain ⟨_, hL, hM⟩ := stm_parts h
 have := numL_len S
 unfold txV
 simp only [ByteArray.size_append, strL_size, hexV_size, sz5a, sz5b, sz5c]
 omega
theorem text_i {S : Int} {L M : ByteArray} (h : stmOK S L M = true) : gq17 S L M = some (txV S L M) := by
 obtain ⟨hS, hL, hM⟩ := stm_parts h
 have := numL_len S
 unfold gq17 gq17.F
 rw [num_i S hS.1 (by omega), bs, hexV_i L (by omega), hexV_i M (by omega)]
 simp only [bs]
 have g : ∀ (x y : ByteArray) (z : Option ByteArray), x.size + y.size ≤ 1000 → grd (gCat x y) z = z := fun x y z hh => grd_of (gCat_t (by omega)) z
 rw [g, g, g, g, g]
 ·rfl
 all_goals (simp only [ByteArray.size_append, strL_size, hexV_size, sz5a, sz5b, sz5c]; omega)
theorem text_s {S : Int} {L M : ByteArray} (h : stmOK S L M = true) : gq11 S L M = some (txV S L M) := by
 obtain ⟨hS, hL, hM⟩ := stm_parts h
 have := numL_len S
 unfold gq11 gq11.F
 rw [num_s S hS.1 (by omega), bs, hexV_s L (by omega), hexV_s M (by omega)]
 simp only [bs]
 have g : ∀ (x y : ByteArray) (z : Option ByteArray), x.size + y.size ≤ 1000 → grd (gCat x y) z = z := fun x y z hh => grd_of (gCat_t (by omega)) z
 rw [g, g, g, g, g]
 ·rfl
 all_goals (simp only [ByteArray.size_append, strL_size, hexV_size, sz5a, sz5b, sz5c]; omega)
end Go.Proofs.YtdhifkdijlghdaaDoorA
namespace Go.Proofs.YtdhifkdijlghdaaDoorA
open Go
set_option linter.unusedVariables false
set_option linter.unusedSimpArgs false
theorem ixb_some (s : ByteArray) (c : Int) : gq29 s c = some (ixbS s c) := (gq29_eq s c).trans rfl
theorem ixb_hx (a : Int) (h0 : 0 ≤ a) (h1 : a < 16) : ixbS hxD (byteAt hxD a) = a := by
 rw [ixbS_eq]
 have : ∀ n ∈ List.range 16, Lib.indexByte hxD.data.toList (byteAt hxD (n : Nat)).toNat.toUInt8 = ((n : Nat) : Int) := by decide
 have := this a.toNat (List.mem_range.2 (by omega))
 rwa [Int.toNat_of_nonneg h0] at this
noncomputable def hvI (x y : Int) : Int := IntKind.wrap .u8 (IntKind.wrap .i64 (iShl .i64 (ixbS hxD x) 4 + ixbS hxD y))
noncomputable def rhL : List Int → List Int
 | x :: y :: l => hvI x y :: rhL l
 | _ => []
theorem hvI_hx (a : Int) (h0 : 0 ≤ a) (h1 : a < 256) : hvI (byteAt hxD (a / 16)) (byteAt hxD (a % 16)) = a := by
 unfold hvI
 rw [ixb_hx (a / 16) (by omega) (by omega), ixb_hx (a % 16) (by omega) (by omega), shl_eq (by decide) (by decide), show (2 : Int) ^ (4 : Int).toNat = 16 from rfl, wr (x := a / 16 * 16) (by omega) (by omega), wr (by omega) (by omega), wr8 (by omega) (by omega)]
 omega
theorem rhL_hex : ∀ l : List Int, IsBytes l → rhL (hexL l) = l
 | [], _ => rfl
 | x :: l, h => by
  simp only [hexL, rhL]
  rw [hvI_hx x (h x (by simp)).1 (h x (by simp)).2, rhL_hex l (fun y hy => h y (by simp [hy]))]
theorem rhash_l1 {R : Type} (kke : List Int → Option R) (l : List Int) (hb : IsBytes l) (hl : l.length ≤ 1000) : ∀ (m fu j : Nat) (out : List Int), j + 2 * m = l.length → m < fu → out.length + m ≤ 1000 →
  gq15.l1 kke fu (strL l) (j : Int) out = kke (out ++ rhL (l.drop j))
 | 0, fu + 1, j, out, e, _, _ => by
  simp only [gq15.l1]
  rw [strL_size, decide_f (by omega), cf, List.drop_of_length_le (by omega), show rhL [] = [] from rfl, List.append_nil]
 | m + 1, fu + 1, j, out, e, hf, ho => by
  have hj : j < l.length := by omega
  have hj' : j + 1 < l.length := by omega
  simp only [gq15.l1]
  rw [strL_size, decide_t (by omega), ct, grd_of (gIx_t (by omega) (by omega)), ixb_some, bs, grd_of (gSh_t (by decide)), wr (x := (j : Int) + 1) (by omega) (by omega), grd_of (gIx_t (by omega) (by omega)), ixb_some, bs, grd_of (gRm_t (by simp; omega)), wr (x := (j : Int) + 2) (by omega) (by omega),
   show ((j : Int) + 2) = ((j + 2 : Nat) : Int) by omega, rhash_l1 kke l hb hl m fu (j + 2) _ (by omega) (by omega) (by simp; omega), drop_cons hj, drop_cons hj', List.append_assoc,
   byteAt_strL hb (by omega) (by omega), byteAt_strL hb (by omega) (by omega), Int.toNat_natCast, show ((j : Int) + 1).toNat = j + 1 by omega, List.getD_eq_getElem?_getD, List.getElem?_eq_getElem hj, List.getD_eq_getElem?_getD, List.getElem?_eq_getElem hj']
  rfl
theorem trim_hx (t : ByteArray) (ht : t.size ≤ 1000) : gq28 t hxD = some (trimS t hxD) := by
 rw [gq28_eq]
 unfold gq28.F
 rw [gTrim_eq, decide_t (show t.size ≤ 9223372036854775807 by omega)]
 rfl
theorem readHash_tot (t : ByteArray) : ∃ r b, gq15 t = some (r, b) := by
 unfold gq15 gq15.F
 by_cases h : t.size = 64
 ·rw [show ((t.size : Int) != 64) = false by simp [h], cf, show (⟨#[48, 49, 50, 51, 52, 53, 54, 55, 56, 57, 97, 98, 99, 100, 101, 102]⟩ : ByteArray) = hxD from rfl, trim_hx t (by omega), bs]
  cases sEq (trimS t hxD) ByteArray.empty with
  | false => exact ⟨_, _, rfl⟩
  | true =>
   have := rhash_l1 (fun out => some (strL out, true)) (bytesL t) (IsBytes.bytesL t) (by rw [bytesL_length]; omega) 32 fuel 0 [] (by rw [bytesL_length]; omega) (fuel_big (by decide)) (by simp)
   rw [strL_bytesL, Int.natCast_zero] at this
   exact ⟨_, _, this⟩
 ·rw [show ((t.size : Int) != 64) = true by simp; omega, ct]
  exact ⟨_, _, rfl⟩
theorem trimS_all (l cs : List UInt8) (h : ∀ b ∈ l, cs.contains b = true) : Lib.trimS l cs = [] := by
 unfold Lib.trimS
 rw [Lib.trimRightS_take l cs 0 (Nat.zero_le _) (fun j b _ hb => h b (List.mem_of_getElem? hb)) (fun b hb => absurd hb (by decide)), List.take_zero]
 rfl
theorem hx_mem (a : Int) (h0 : 0 ≤ a) (h1 : a < 16) : hxD.data.toList.contains (UInt8.ofNat (byteAt hxD a).toNat) = true := by
 have : ∀ n ∈ List.range 16, hxD.data.toList.contains (UInt8.ofNat (byteAt hxD (n : Nat)).toNat) = true := by decide
 have := this a.toNat (List.mem_range.2 (by omega))
 rwa [Int.toNat_of_nonneg h0] at this
theorem hexL_bytes : ∀ l : List Int, IsBytes (hexL l)
 | [] => IsBytes.nil
 | x :: l => IsBytes.cons (hxD_byte _).1 (hxD_byte _).2 (IsBytes.cons (hxD_byte _).1 (hxD_byte _).2 (hexL_bytes l))
theorem hexL_mem : ∀ l : List Int, IsBytes l → ∀ y ∈ hexL l, ∃ a : Int, 0 ≤ a ∧ a < 16 ∧ y = byteAt hxD a
 | [], _, y, hy => by simp [hexL] at hy
 | x :: l, h, y, hy => by
  have hx := h x (by simp)
  simp only [hexL, List.mem_cons] at hy
  rcases hy with rfl | rfl | hy
  ·exact ⟨x / 16, by omega, by omega, rfl⟩
  ·exact ⟨x % 16, by omega, by omega, rfl⟩
  ·exact hexL_mem l (fun z hz => h z (by simp [hz])) y hy
theorem readHash_hex (L : ByteArray) (h : L.size = 32) : gq15 (hexV L) = some (L, true) := by
 unfold gq15 gq15.F
 rw [show (((hexV L).size : Int) != 64) = false by rw [hexV_size, h]; rfl, cf, show (⟨#[48, 49, 50, 51, 52, 53, 54, 55, 56, 57, 97, 98, 99, 100, 101, 102]⟩ : ByteArray) = hxD from rfl, trim_hx _ (by rw [hexV_size]; omega), bs, trimS_eq]
 have e : Lib.trimS (hexV L).data.toList hxD.data.toList = [] := by
  refine trimS_all _ _ fun b hb => ?_
  rw [hexV, strL_list, List.mem_map] at hb
  obtain ⟨y, hy, rfl⟩ := hb
  obtain ⟨a, h0, h1, rfl⟩ := hexL_mem _ (IsBytes.bytesL L) y hy
  exact hx_mem a h0 h1
 rw [e, show sEq (⟨([] : List UInt8).toArray⟩ : ByteArray) ByteArray.empty = true from sEq_self _, Bool.not_true, cf]
 have hlen : (hexL (bytesL L)).length = 64 := by rw [hexL_len, bytesL_length]; omega
 have := rhash_l1 (fun out => some (strL out, true)) (hexL (bytesL L)) (hexL_bytes _) (by omega) 32 fuel 0 [] (by omega) (fuel_big (by decide)) (by simp)
 rw [Int.natCast_zero, List.drop_zero, List.nil_append, rhL_hex _ (IsBytes.bytesL L), strL_bytesL] at this
 exact this
def nibV (c : Int) : Int := if 48 ≤ c ∧ c ≤ 57 then c - 48 else if 97 ≤ c ∧ c ≤ 102 then c - 97 + 10 else -1
theorem nib_eq (c : Int) (h0 : 0 ≤ c) (h1 : c < 256) : gq18 c = some (nibV c) := by
 unfold gq18 gq18.F gq18.j1 nibV
 by_cases h2 : c ≥ 48
 ·rw [decide_t h2, ct]
  by_cases h3 : c ≤ 57
  ·rw [decide_t h3]
   dsimp only
   rw [ct, if_pos ⟨h2, h3⟩, wr (x := c) (by omega) (by omega), wr (by omega) (by omega)]
  ·rw [decide_f h3]
   dsimp only
   rw [cf, if_neg (fun h => h3 h.2)]
   by_cases h4 : c ≥ 97
   ·rw [decide_t h4, ct]
    by_cases h5 : c ≤ 102
    ·rw [decide_t h5, ct, if_pos ⟨h4, h5⟩, wr (x := c) (by omega) (by omega), wr (x := c - 97) (by omega) (by omega), wr (by omega) (by omega)]
    ·rw [decide_f h5, cf, if_neg (fun h => h5 h.2)]
   ·rw [decide_f h4, cf, if_neg (fun h => h4 h.1)]
 ·rw [decide_f h2, cf]
  dsimp only
  rw [cf, if_neg (fun h => h2 h.1), decide_f (show ¬ c ≥ 97 by omega), cf, if_neg (by omega)]
theorem nibV_range (c : Int) : -1 ≤ nibV c ∧ nibV c ≤ 15 := by
 unfold nibV
 split
 ·omega
 ·split <;> omega
theorem nibV_hx (a : Int) (h0 : 0 ≤ a) (h1 : a < 16) : nibV (byteAt hxD a) = a := by
 have : ∀ n ∈ List.range 16, nibV (byteAt hxD (n : Nat)) = ((n : Nat) : Int) := by decide
 have := this a.toNat (List.mem_range.2 (by omega))
 rwa [Int.toNat_of_nonneg h0] at this
def shL : List Int → Option (List Int)
 | x :: y :: l => if nibV x < 0 then none else if nibV y < 0 then none else (shL l).map fun r => (16 * nibV x + nibV y) :: r
 | _ => some []
theorem shL_hex : ∀ l : List Int, IsBytes l → shL (hexL l) = some l
 | [], _ => rfl
 | x :: l, h => by
  have hx := h x (by simp)
  simp only [hexL, shL]
  rw [nibV_hx _ (by omega) (by omega), nibV_hx _ (by omega) (by omega), if_neg (by omega), if_neg (by omega), shL_hex l (fun y hy => h y (by simp [hy])), Option.map_some, show 16 * (x / 16) + x % 16 = x by omega]
theorem shash_l1 {R : Type} (kke : List Int → Option R) (kkr : ByteArray → Int → Option R) (l : List Int) (hb : IsBytes l) (hl : l.length ≤ 1000) : ∀ (m fu j : Nat) (out : List Int), j + 2 * m = l.length → m < fu → out.length + m ≤ 1000 →
  gq9.l1 kke kkr fu (strL l) (j : Int) out = match shL (l.drop j) with
   | some r => kke (out ++ r)
   | none => kkr ByteArray.empty 3
 | 0, fu + 1, j, out, e, _, _ => by
  simp only [gq9.l1]
  rw [strL_size, decide_f (by omega), cf, List.drop_of_length_le (by omega)]
  simp only [shL, List.append_nil]
 | m + 1, fu + 1, j, out, e, hf, ho => by
  have hj : j < l.length := by omega
  have hj' : j + 1 < l.length := by omega
  have b1 := hb.get hj
  have b2 := hb.get hj'
  have n1 := nibV_range l[j]
  have n2 := nibV_range l[j + 1]
  simp only [gq9.l1]
  rw [strL_size, decide_t (by omega), ct, grd_of (gIx_t (by omega) (by omega)), wr (x := (j : Int) + 1) (by omega) (by omega), byteAt_strL hb (by omega) (by omega), byteAt_strL hb (by omega) (by omega), Int.toNat_natCast, show ((j : Int) + 1).toNat = j + 1 by omega, List.getD_eq_getElem?_getD, List.getElem?_eq_getElem hj, List.getD_eq_getElem?_getD, List.getElem?_eq_getElem hj', Option.getD_some, Option.getD_some,
   nib_eq _ b1.1 b1.2, bs, grd_of (gIx_t (by omega) (by omega)), nib_eq _ b2.1 b2.2, bs, drop_cons hj, drop_cons hj']
  simp only [shL]
  by_cases h1 : nibV l[j] < 0
  ·rw [decide_t h1, ct, if_pos h1]
  ·rw [decide_f h1, cf, if_neg h1]
   by_cases h2 : nibV l[j + 1] < 0
   ·rw [decide_t h2, ct, if_pos h2]
   ·rw [decide_f h2, cf, if_neg h2, grd_of (gRm_t (by simp; omega)), wr (x := (j : Int) + 2) (by omega) (by omega), show ((j : Int) + 2) = ((j + 2 : Nat) : Int) by omega, shash_l1 kke kkr l hb hl m fu (j + 2) _ (by omega) (by omega) (by simp; omega),
     wr (x := 16 * nibV l[j]) (by omega) (by omega), wr (by omega) (by omega), wr8 (by omega) (by omega)]
    cases shL (List.drop (j + 1 + 1) l) with
    | none => rfl
    | some r => simp
theorem sReadHash_tot (t : ByteArray) : ∃ r c, gq9 t = some (r, c) := by
 unfold gq9 gq9.F
 by_cases h0 : (t.size : Int) > 65536
 ·rw [decide_t h0, ct]; exact ⟨_, _, rfl⟩
 rw [decide_f h0, cf]
 by_cases h : t.size = 64
 ·rw [show ((t.size : Int) != 64) = false by simp [h], cf]
  have := shash_l1 (fun out => some (strL out, (0 : Int))) (fun s i => some (s, i)) (bytesL t) (IsBytes.bytesL t) (by rw [bytesL_length]; omega) 32 fuel 0 [] (by rw [bytesL_length]; omega) (fuel_big (by decide)) (by simp)
  rw [strL_bytesL, Int.natCast_zero] at this
  rw [this]
  cases shL ((bytesL t).drop 0) with
  | none => exact ⟨_, _, rfl⟩
  | some r => exact ⟨_, _, rfl⟩
 ·rw [show ((t.size : Int) != 64) = true by simp; omega, ct]
  exact ⟨_, _, rfl⟩
theorem sReadHash_hex (L : ByteArray) (h : L.size = 32) : gq9 (hexV L) = some (L, 0) := by
 unfold gq9 gq9.F
 rw [decide_f (show ¬ ((hexV L).size : Int) > 65536 by rw [hexV_size]; omega), cf, show (((hexV L).size : Int) != 64) = false by rw [hexV_size, h]; rfl, cf]
 have hlen : (hexL (bytesL L)).length = 64 := by rw [hexL_len, bytesL_length]; omega
 have := shash_l1 (fun out => some (strL out, (0 : Int))) (fun s i => some (s, i)) (hexL (bytesL L)) (hexL_bytes _) (by omega) 32 fuel 0 [] (by omega) (fuel_big (by decide)) (by simp)
 rw [Int.natCast_zero, List.drop_zero, shL_hex _ (IsBytes.bytesL L)] at this
 dsimp only at this
 rw [List.nil_append, strL_bytesL] at this
 exact this
def wordsF : List Int → List Int → List (List Int)
 | w, [] => if w = [] then [] else [w]
 | w, x :: r => if x = 32 then (if w = [] then wordsF [] r else w :: wordsF [] r) else wordsF (w ++ [x]) r
theorem wordsF_word (w v r : List Int) (h : ∀ x ∈ w, x ≠ 32) (hw : v ++ w ≠ []) : wordsF v (w ++ 32 :: r) = (v ++ w) :: wordsF [] r := by
 induction w generalizing v with
 | nil =>
  rw [List.append_nil] at hw ⊢
  rw [List.nil_append, wordsF, if_pos rfl, if_neg hw]
 | cons a w ih =>
  rw [List.cons_append, wordsF, if_neg (h a (by simp)), ih (v ++ [a]) (fun x hx => h x (by simp [hx])) (by simp), List.append_assoc]
  rfl
theorem wordsF_last (w v : List Int) (h : ∀ x ∈ w, x ≠ 32) (hw : v ++ w ≠ []) : wordsF v w = [v ++ w] := by
 induction w generalizing v with
 | nil =>
  rw [List.append_nil] at hw ⊢
  rw [wordsF, if_neg hw]
 | cons a w ih =>
  rw [wordsF, if_neg (h a (by simp)), ih (v ++ [a]) (fun x hx => h x (by simp [hx])) (by simp), List.append_assoc]
  rfl
theorem sub_snoc {l : List Int} {a i : Nat} (ha : a ≤ i) (hi : i < l.length) : sub l (a : Int) ((i + 1 : Nat) : Int) = sub l (a : Int) (i : Int) ++ [l[i]] := by
 unfold sub
 rw [Int.toNat_natCast, Int.toNat_natCast, Int.toNat_natCast, take_snoc hi, List.drop_append_of_le_length (by rw [List.length_take]; omega)]
theorem sub_nil_iff {l : List Int} {a i : Nat} (ha : a ≤ i) (hi : i ≤ l.length) : sub l (a : Int) (i : Int) = [] ↔ a = i := by
 unfold sub
 rw [Int.toNat_natCast, Int.toNat_natCast]
 constructor
 ·intro h
  have := congrArg List.length h
  rw [List.length_drop, List.length_take, List.length_nil] at this
  omega
 ·rintro rfl
  exact List.drop_of_length_le (by rw [List.length_take]; omega)
theorem words_l2 {R : Type} (kke : List ByteArray → Option R) (l : List Int) (hb : IsBytes l) (hl : l.length ≤ 65536) : ∀ (m fu i a : Nat) (out : List ByteArray), i + m = l.length → m + 1 < fu → a ≤ i → out.length + m ≤ 100000 →
  gq7.l2 kke fu (strL l) (a : Int) (i : Int) out = kke (out ++ (wordsF (sub l (a : Int) (i : Int)) (l.drop i)).map strL)
 | 0, fu + 2, i, a, out, e, _, ha, ho => by
  obtain rfl : i = l.length := by omega
  rw [gq7.l2, strL_size, decide_t (by omega), ct]
  unfold gq7.j1
  rw [strL_size, show (((l.length : Nat) : Int) == ((l.length : Nat) : Int)) = true from beq_self_eq_true _, ct]
  dsimp only
  rw [ct, List.drop_of_length_le (Nat.le_refl _), wordsF]
  have hend : ∀ (o : List ByteArray) (x : Int), gq7.l2 kke (fu + 1) (strL l) x (IntKind.wrap .i64 ((l.length : Int) + 1)) o = kke o := fun o x => by
   rw [gq7.l2, wr (by omega) (by omega), strL_size, decide_f (by omega), cf]
  by_cases h : a < l.length
  ·rw [decide_t (show ((l.length : Nat) : Int) > (a : Int) by omega), ct, grd_of (gSl_t (by omega) (by omega) (by rw [strL_size]; omega)), grd_of (gRm_t (by simp; omega)), hend, if_neg (fun hn => by have := (sub_nil_iff (l := l) ha (Nat.le_refl _)).1 hn; omega), cut_strL]
   rfl
  ·obtain rfl : a = l.length := by omega
   rw [decide_f (show ¬ ((l.length : Nat) : Int) > (l.length : Int) by omega), cf, hend, if_pos ((sub_nil_iff (l := l) (Nat.le_refl _) (Nat.le_refl _)).2 rfl), List.map_nil, List.append_nil]
 | m + 1, fu + 1, i, a, out, e, hf, ha, ho => by
  have hi : i < l.length := by omega
  have bi := hb.get hi
  rw [gq7.l2, strL_size, decide_t (by omega), ct]
  unfold gq7.j1
  rw [strL_size, show ((i : Int) == (l.length : Int)) = false by rw [beq_eq_false_iff_ne]; omega, cf, grd_of (gIx_t (by omega) (by omega)), byteAt_strL hb (by omega) (by omega), Int.toNat_natCast, List.getD_eq_getElem?_getD, List.getElem?_eq_getElem hi, Option.getD_some, drop_cons hi]
  dsimp only
  rw [wr (by omega) (by omega), show ((i : Int) + 1) = ((i + 1 : Nat) : Int) by omega, wordsF]
  by_cases hx : l[i] = 32
  ·rw [hx, show ((32 : Int) == 32) = true from rfl, ct, if_pos rfl]
   by_cases h : a < i
   ·rw [decide_t (show (i : Int) > (a : Int) by omega), ct, grd_of (gSl_t (by omega) (by omega) (by rw [strL_size]; omega)), grd_of (gRm_t (by simp; omega)), if_neg (fun hn => by have := (sub_nil_iff (l := l) ha (by omega)).1 hn; omega),
     words_l2 kke l hb hl m fu (i + 1) (i + 1) _ (by omega) (by omega) (Nat.le_refl _) (by simp; omega), (sub_nil_iff (l := l) (Nat.le_refl (i + 1)) (by omega)).2 rfl, cut_strL, List.append_assoc]
    rfl
   ·obtain rfl : a = i := by omega
    rw [decide_f (show ¬ (a : Int) > (a : Int) by omega), cf, if_pos ((sub_nil_iff (l := l) (Nat.le_refl _) (by omega)).2 rfl),
     words_l2 kke l hb hl m fu (a + 1) (a + 1) _ (by omega) (by omega) (Nat.le_refl _) (by omega), (sub_nil_iff (l := l) (Nat.le_refl (a + 1)) (by omega)).2 rfl]
  ·rw [show (l[i] == (32 : Int)) = false by rw [beq_eq_false_iff_ne]; exact hx, cf, if_neg hx, words_l2 kke l hb hl m fu (i + 1) a _ (by omega) (by omega) (by omega) (by omega), sub_snoc ha hi]
theorem words_s (l : List Int) (hb : IsBytes l) (hl : l.length ≤ 65536) : gq7 (strL l) = some ((wordsF [] l).map strL) := by
 unfold gq7 gq7.F
 have := words_l2 (fun out => some out) l hb hl l.length fuel 0 0 [] (by omega) (fuel_big (by omega)) (Nat.le_refl _) (by simp; omega)
 rw [(sub_nil_iff (l := l) (Nat.le_refl 0) (Nat.zero_le _)).2 rfl, Int.natCast_zero, List.drop_zero, List.nil_append] at this
 exact this
def spB : ByteArray := ⟨#[32]⟩
theorem split_some (s : ByteArray) (h : s.size < 4294967281) : gq13 s spB = some (splS s spB) := by
 rw [gq13_eq]
 unfold gq13.F
 rw [gSpl_eq, decide_t h]
 rfl
theorem split_size (c : ByteArray) : ∀ (n : Nat) (s : ByteArray), ∀ x ∈ Lib.splitB c 0 n s, x.size ≤ s.size
 | 0, s, x, hx => by
  rw [Lib.splitB_zero] at hx
  rw [List.mem_singleton.1 hx]
  exact Nat.le_refl _
 | n + 1, s, x, hx => by
  unfold Lib.splitB at hx
  split at hx
  ·rw [List.mem_singleton.1 hx]
   exact Nat.le_refl _
  ·rcases List.mem_cons.1 hx with rfl | hx
   ·rw [ByteArray.size_extract]; omega
   ·have := split_size c n _ x hx
    rw [ByteArray.size_extract] at this
    omega
theorem index_word : ∀ (w r : List UInt8), (∀ x ∈ w, x ≠ 32) → Lib.indexByte (w ++ 32 :: r) 32 = w.length
 | [], r, _ => rfl
 | a :: w, r, h => by
  rw [List.cons_append, Lib.indexByte, index_word w r (fun x hx => h x (by simp [hx])), if_neg (by simpa using h a (by simp)), if_neg (by simp; try omega), List.length_cons]
  omega
theorem index_no : ∀ (w : List UInt8), (∀ x ∈ w, x ≠ 32) → Lib.indexByte w 32 = -1
 | [], _ => rfl
 | a :: w, h => by
  rw [Lib.indexByte, index_no w (fun x hx => h x (by simp [hx])), if_neg (by simpa using h a (by simp))]
  rfl
theorem u8_32 {l : List Int} (hb : IsBytes l) (h : ∀ x ∈ l, x ≠ 32) : ∀ x ∈ l.map (fun n => UInt8.ofNat n.toNat), x ≠ 32 := by
 intro x hx
 rw [List.mem_map] at hx
 obtain ⟨y, hy, rfl⟩ := hx
 have h1 := hb y hy
 have h2 := h y hy
 intro e
 have := congrArg UInt8.toNat e
 rw [UInt8.toNat_ofNat'] at this
 have e2 : (32 : UInt8).toNat = 32 := rfl
 rw [e2] at this
 omega
theorem split_word (w r : List Int) (hw : IsBytes w) (h : ∀ x ∈ w, x ≠ 32) : splS (strL (w ++ 32 :: r)) spB = strL w :: splS (strL r) spB := by
 rw [splS_eq, splS_eq]
 have e : (strL (w ++ 32 :: r)).data.toList = w.map (fun n => UInt8.ofNat n.toNat) ++ 32 :: r.map (fun n => UInt8.ofNat n.toNat) := by
  rw [strL_list, List.map_append, List.map_cons]; rfl
 have hi : Lib.indexB (strL (w ++ 32 :: r)) spB = (w.length : Nat) := by
  show Lib.index _ [32] = _
  rw [Lib.index_one, e, index_word _ _ (u8_32 hw h), List.length_map]
 have hx : (strL (w ++ 32 :: r)).extract (w.length + spB.size) (strL (w ++ 32 :: r)).size = strL r := by
  apply ba_ext
  rw [Lib.extract_to_end, e, strL_list, show spB.size = 1 from rfl, List.drop_append, List.drop_of_length_le (by rw [List.length_map]; omega), List.nil_append, List.length_map, show w.length + 1 - w.length = 1 by omega]
  rfl
 have hx0 : (strL (w ++ 32 :: r)).extract 0 (w.length + 0) = strL w := by
  apply ba_ext
  rw [Lib.extract_data, e, strL_list, List.drop_zero, List.take_left' (by rw [List.length_map]; omega)]
 rw [Lib.countB_hit _ _ w.length (by decide) hi, hx, Nat.add_comm 1, Lib.splitB_hit _ _ _ _ w.length hi, hx, hx0]
theorem split_last (w : List Int) (hw : IsBytes w) (h : ∀ x ∈ w, x ≠ 32) : splS (strL w) spB = [strL w] := by
 rw [splS_eq]
 refine Lib.splitB_miss _ _ _ _ ?_
 show Lib.index _ [32] = _
 rw [Lib.index_one, strL_list, index_no _ (u8_32 hw h)]
theorem rn_some (s : ByteArray) (h : s.size ≤ 65536) : gq14 s = some (rdnI s, rdnB s) := by
 rw [gq14_eq]
 unfold gq14.F
 rw [gRn_eq, decide_t (show s.size ≤ 281474976710656 by omega)]
 rfl
theorem itoa_num (n : Int) (h0 : 0 ≤ n) (h1 : n < 100) : Lib.itoa n = (strL (numL n)).data.toList := by
 have := num_i n h0 h1
 rw [gq26_eq] at this
 unfold gq26.F at this
 rw [decide_t h0, decide_t h1, Bool.and_self, grd_t, itoaS_eq, Option.some.injEq] at this
 rw [← this, Lib.itoa, if_neg (by omega)]
theorem atoi_num (n : Int) (h0 : 0 ≤ n) (h1 : n ≤ 50) : Lib.atoiAll (strL (numL n)).data.toList = .ok n := by
 have : ∀ m ∈ List.range 51, (match Lib.atoiAll ((numL ((m : Nat) : Int)).map fun n => UInt8.ofNat n.toNat) with | .ok v => decide (v = ((m : Nat) : Int)) | _ => false) = true := by decide
 rw [strL_list]
 have := this n.toNat (List.mem_range.2 (by omega))
 rw [Int.toNat_of_nonneg h0] at this
 split at this
 ·rename_i v hv
  rw [hv, of_decide_eq_true this]
 ·cases this
theorem rn_num (n : Int) (h0 : 0 ≤ n) (h1 : n ≤ 50) : gq14 (strL (numL n)) = some (n, true) := by
 have hl := numL_len n
 rw [rn_some _ (by rw [strL_size]; omega), rdnI_eq, rdnB_eq]
 have ht : (Lib.trimPrefix (strL (numL n)).data.toList [45]).length ≤ 18 := by
  unfold Lib.trimPrefix
  split
  ·rw [List.length_drop, strL_list, List.length_map]; omega
  ·rw [strL_list, List.length_map]; omega
 have : rnV0 (strL (numL n)) = (n, true) := by
  unfold rnV0
  rw [atoi_num n h0 h1]
  dsimp only
  rw [if_pos ⟨itoa_num n h0 (by omega), ht⟩]
 rw [this]
theorem snum_tot3 {t : ByteArray} (ht : t.size ≤ 18) (sg : Int) : ∀ (m fu i : Nat) (n : Int), i + m = t.size → m < fu → ∃ a b, gq8.l3 (fun sign2 n_ => some (IntKind.wrap .i64 (sign2 * n_), true)) (fun i b => some (i, b)) fu t sg n (i : Int) = some (a, b)
 | 0, fu + 1, i, n, e, _ => by
  rw [gq8.l3, decide_f (by omega), cf]
  exact ⟨_, _, rfl⟩
 | m + 1, fu + 1, i, n, e, hf => by
  rw [gq8.l3, decide_t (by omega), ct, grd_of (gIx_t (by omega) (by omega)), grd_of (gIx_t (by omega) (by omega)), grd_of (gIx_t (by omega) (by omega))]
  cases decide (byteAt t (i : Int) < 48) with
  | true => exact ⟨_, _, rfl⟩
  | false =>
   rw [cf]
   cases decide (byteAt t (i : Int) > 57) with
   | true => exact ⟨_, _, rfl⟩
   | false =>
    rw [cf, wr (x := (i : Int) + 1) (by omega) (by omega), show ((i : Int) + 1) = ((i + 1 : Nat) : Int) by omega]
    exact snum_tot3 ht sg m fu (i + 1) _ (by omega) (by omega)
theorem snum_tot2 (t : ByteArray) (sg : Int) : ∃ a b, gq8.j2 (fun t_2 sign1 => gq8.l3 (fun sign2 n_ => some (IntKind.wrap .i64 (sign2 * n_), true)) (fun i b => some (i, b)) fuel t_2 sign1 (0 : Int) (0 : Int)) (fun i1 b1 => some (i1, b1)) t sg = some (a, b) := by
 unfold gq8.j2
 by_cases h0 : t.size = 0
 ·rw [show ((t.size : Int) == 0) = true by simp [h0], ct]
  exact ⟨_, _, rfl⟩
 ·rw [show ((t.size : Int) == 0) = false by rw [beq_eq_false_iff_ne]; omega, cf]
  by_cases h1 : (t.size : Int) > 18
  ·rw [decide_t h1, ct]
   exact ⟨_, _, rfl⟩
  ·have h3 := snum_tot3 (t := t) (by omega) sg t.size fuel 0 0 (by omega) (fuel_big (by omega))
   rw [Int.natCast_zero] at h3
   rw [decide_f h1, cf, grd_of (gIx_t (by omega) (by omega))]
   cases byteAt t 0 == 48 with
   | false => exact h3
   | true =>
    rw [ct]
    cases decide ((t.size : Int) > 1) with
    | true => exact ⟨_, _, rfl⟩
    | false =>
     rw [cf]
     cases decide (sg < 0) with
     | true => exact ⟨_, _, rfl⟩
     | false => exact h3
theorem snum_tot (t : ByteArray) : ∃ a b, gq8 t = some (a, b) := by
 unfold gq8 gq8.F gq8.j1
 by_cases h : (t.size : Int) > 0
 ·rw [decide_t h, ct, grd_of (gIx_t (by omega) (by omega))]
  cases byteAt t 0 == 45 with
  | true =>
   rw [ct, grd_of (gSl_t (by omega) (by omega) (by omega))]
   exact snum_tot2 _ _
  | false => exact snum_tot2 _ _
 ·rw [decide_f h, cf]
  exact snum_tot2 _ _
theorem snum_step {R : Type} (kke : Int → Int → Option R) (kkr : Int → Bool → Option R) (l : List Int) (hb : IsBytes l) (hl : l.length ≤ 1000) (fu i : Nat) (sg n : Int) (hi : i < l.length) (h0 : 48 ≤ l[i]) (h1 : l[i] ≤ 57) (hn : 0 ≤ n) (hn' : n ≤ 1000) :
  gq8.l3 kke kkr (fu + 1) (strL l) sg n (i : Int) = gq8.l3 kke kkr fu (strL l) sg (n * 10 + l[i] - 48) ((i + 1 : Nat) : Int) := by
 rw [gq8.l3, strL_size, decide_t (by omega), ct, grd_of (gIx_t (by omega) (by omega)), byteAt_strL hb (by omega) (by omega), Int.toNat_natCast, List.getD_eq_getElem?_getD, List.getElem?_eq_getElem hi, Option.getD_some, decide_f (by omega), cf, grd_of (gIx_t (by omega) (by omega)), decide_f (by omega), cf, grd_of (gIx_t (by omega) (by omega)),
  wr (x := n * 10) (by omega) (by omega), wr (x := l[i]) (by omega) (by omega), wr (x := n * 10 + l[i]) (by omega) (by omega), wr (x := n * 10 + l[i] - 48) (by omega) (by omega), wr (x := (i : Int) + 1) (by omega) (by omega), show ((i : Int) + 1) = ((i + 1 : Nat) : Int) by omega]
theorem snum_end {R : Type} (kke : Int → Int → Option R) (kkr : Int → Bool → Option R) (l : List Int) (fu : Nat) (sg n : Int) :
  gq8.l3 kke kkr (fu + 1) (strL l) sg n ((l.length : Nat) : Int) = kke sg n := by
 rw [gq8.l3, strL_size, decide_f (by omega), cf]
theorem snum_num (n : Int) (h0 : 0 ≤ n) (h1 : n ≤ 50) : gq8 (strL (numL n)) = some (n, true) := by
 obtain ⟨q, hq⟩ : ∃ q, fuel = q + 1 + 1 + 1 := ⟨fuel - 3, by rw [fuel_eq]⟩
 unfold gq8 gq8.F gq8.j1 gq8.j2
 by_cases h : n < 10
 ·have hb : IsBytes [48 + n] := IsBytes.cons (by omega) (by omega) IsBytes.nil
  have e : numL n = [48 + n] := if_pos h
  have hat : byteAt (strL [48 + n]) 0 = 48 + n := by rw [byteAt_strL hb (by simp) (by simp)]; rfl
  rw [e, strL_size, decide_t (by simp), ct, grd_of (gIx_t (by simp) (by simp)), hat, show (48 + n == (45 : Int)) = false by rw [beq_eq_false_iff_ne]; omega, cf]
  dsimp only
  rw [strL_size, show ((([48 + n].length : Nat) : Int) == 0) = false from rfl, cf, decide_f (by simp), cf, grd_of (gIx_t (by simp) (by simp)), hat, hq]
  have key : ∀ (kkr : Int → Bool → Option (Int × Bool)), gq8.l3 (fun sign2 n_ => some (IntKind.wrap .i64 (sign2 * n_), true)) kkr (q + 1 + 1 + 1) (strL [48 + n]) 1 0 0 = some (n, true) := fun kkr => by
   have s1 := snum_step (fun sign2 n_ => some (IntKind.wrap .i64 (sign2 * n_), true)) kkr [48 + n] hb (by simp) (q + 1 + 1) 0 1 0 (by simp) (by show 48 ≤ 48 + n; omega) (by show 48 + n ≤ 57; omega) (by simp) (by simp)
   rw [Int.natCast_zero] at s1
   rw [s1]
   have s2 := snum_end (fun sign2 n_ => some (IntKind.wrap .i64 (sign2 * n_), true)) kkr [48 + n] (q + 1) 1 (0 * 10 + (48 + n) - 48)
   refine s2.trans ?_
   rw [wr (by omega) (by omega)]
   congr 2
   omega
  cases (48 + n == (48 : Int)) with
  | false => rw [cf]; exact key _
  | true =>
   rw [ct, decide_f (by simp), cf, decide_f (by simp), cf]
   exact key _
 ·have hb : IsBytes [48 + n / 10, 48 + n % 10] := IsBytes.cons (by omega) (by omega) (IsBytes.cons (by omega) (by omega) IsBytes.nil)
  have e : numL n = [48 + n / 10, 48 + n % 10] := if_neg h
  have hat : byteAt (strL [48 + n / 10, 48 + n % 10]) 0 = 48 + n / 10 := by rw [byteAt_strL hb (by simp) (by simp)]; rfl
  rw [e, strL_size, decide_t (by simp), ct, grd_of (gIx_t (by simp) (by simp)), hat, show (48 + n / 10 == (45 : Int)) = false by rw [beq_eq_false_iff_ne]; omega, cf]
  dsimp only
  rw [strL_size, show ((([48 + n / 10, 48 + n % 10].length : Nat) : Int) == 0) = false from rfl, cf, decide_f (by simp), cf, grd_of (gIx_t (by simp) (by simp)), hat, hq, show (48 + n / 10 == (48 : Int)) = false by rw [beq_eq_false_iff_ne]; omega, cf]
  have s1 := snum_step (fun sign2 n_ => some (IntKind.wrap .i64 (sign2 * n_), true)) (fun i b => some (i, b)) [48 + n / 10, 48 + n % 10] hb (by simp) (q + 1 + 1) 0 1 0 (by simp) (by show 48 ≤ 48 + n / 10; omega) (by show 48 + n / 10 ≤ 57; omega) (by simp) (by simp)
  rw [Int.natCast_zero] at s1
  rw [s1]
  have s2 := snum_step (fun sign2 n_ => some (IntKind.wrap .i64 (sign2 * n_), true)) (fun i b => some (i, b)) [48 + n / 10, 48 + n % 10] hb (by simp) (q + 1) 1 1 (0 * 10 + (48 + n / 10) - 48) (by simp) (by show 48 ≤ 48 + n % 10; omega) (by show 48 + n % 10 ≤ 57; omega) (by omega) (by omega)
  refine s2.trans ?_
  have s3 := snum_end (fun sign2 n_ => some (IntKind.wrap .i64 (sign2 * n_), true)) (fun i b => some (i, b)) [48 + n / 10, 48 + n % 10] q 1 ((0 * 10 + (48 + n / 10) - 48) * 10 + (48 + n % 10) - 48)
  refine s3.trans ?_
  rw [wr (by omega) (by omega)]
  congr 2
  omega
end Go.Proofs.YtdhifkdijlghdaaDoorA
namespace Go.Proofs.YtdhifkdijlghdaaDoorA
open Go
set_option linter.unusedVariables false
set_option linter.unusedSimpArgs false
def txL (S : Int) (L M : ByteArray) : List Int := [115, 105, 122, 101] ++ 32 :: (numL S ++ 32 :: ([108, 111, 103] ++ 32 :: (hexL (bytesL L) ++ 32 :: ([109, 97, 112] ++ 32 :: hexL (bytesL M)))))
theorem txV_list (S : Int) (L M : ByteArray) : txV S L M = strL (txL S L M) := by
 unfold txV hexV
 rw [show (⟨#[115, 105, 122, 101, 32]⟩ : ByteArray) = strL [115, 105, 122, 101, 32] from rfl, show (⟨#[32, 108, 111, 103, 32]⟩ : ByteArray) = strL [32, 108, 111, 103, 32] from rfl, show (⟨#[32, 109, 97, 112, 32]⟩ : ByteArray) = strL [32, 109, 97, 112, 32] from rfl]
 rw [strL_append, strL_append, strL_append, strL_append, strL_append]
 congr 1
 unfold txL
 simp
theorem numL_bytes {S : Int} (h0 : 0 ≤ S) (h1 : S ≤ 50) : IsBytes (numL S) := by
 unfold numL
 split
 ·exact IsBytes.cons (by omega) (by omega) IsBytes.nil
 ·exact IsBytes.cons (by omega) (by omega) (IsBytes.cons (by omega) (by omega) IsBytes.nil)
theorem numL_no {S : Int} (h0 : 0 ≤ S) (h1 : S ≤ 50) : ∀ x ∈ numL S, x ≠ 32 := by
 unfold numL
 intro x hx
 split at hx
 ·simp at hx; omega
 ·simp at hx; omega
theorem numL_ne (S : Int) : numL S ≠ [] := by
 unfold numL
 split <;> simp
theorem hx_no (a : Int) (h0 : 0 ≤ a) (h1 : a < 16) : byteAt hxD a ≠ 32 := by
 have : ∀ n ∈ List.range 16, byteAt hxD (n : Nat) ≠ 32 := by decide
 have := this a.toNat (List.mem_range.2 (by omega))
 rwa [Int.toNat_of_nonneg h0] at this
theorem hexL_no (s : ByteArray) : ∀ x ∈ hexL (bytesL s), x ≠ 32 := by
 intro x hx
 obtain ⟨a, h0, h1, rfl⟩ := hexL_mem _ (IsBytes.bytesL s) x hx
 exact hx_no a h0 h1
theorem hexL_ne (s : ByteArray) (h : s.size = 32) : hexL (bytesL s) ≠ [] := by
 intro e
 have := congrArg List.length e
 rw [hexL_len, bytesL_length, List.length_nil] at this
 omega
theorem txL_bytes {S : Int} {L M : ByteArray} (h0 : 0 ≤ S) (h1 : S ≤ 50) : IsBytes (txL S L M) := by
 have c : ∀ l : List Int, (l.all fun y => decide (0 ≤ y) && decide (y < 256)) = true → IsBytes l := fun l h y hy => by
  have := List.all_eq_true.1 h y hy
  rw [Bool.and_eq_true, decide_eq_true_iff, decide_eq_true_iff] at this
  exact this
 have s : ∀ l : List Int, IsBytes l → IsBytes (32 :: l) := fun l h => IsBytes.cons (by decide) (by decide) h
 unfold txL
 exact IsBytes.append (c _ (by decide)) (s _ (IsBytes.append (numL_bytes h0 h1) (s _ (IsBytes.append (c _ (by decide)) (s _ (IsBytes.append (hexL_bytes _) (s _ (IsBytes.append (c _ (by decide)) (s _ (hexL_bytes _))))))))))
theorem lit_no {l : List Int} (h : (l.all fun y => decide (y ≠ 32)) = true) : ∀ x ∈ l, x ≠ 32 := fun x hx => of_decide_eq_true (List.all_eq_true.1 h x hx)
theorem lit_bytes {l : List Int} (h : (l.all fun y => decide (0 ≤ y) && decide (y < 256)) = true) : IsBytes l := fun y hy => by
 have := List.all_eq_true.1 h y hy
 rw [Bool.and_eq_true, decide_eq_true_iff, decide_eq_true_iff] at this
 exact this
theorem txL_words {S : Int} {L M : ByteArray} (h0 : 0 ≤ S) (h1 : S ≤ 50) (hL : L.size = 32) (hM : M.size = 32) : wordsF [] (txL S L M) = [[115, 105, 122, 101], numL S, [108, 111, 103], hexL (bytesL L), [109, 97, 112], hexL (bytesL M)] := by
 unfold txL
 rw [wordsF_word _ _ _ (lit_no (by decide)) (by simp), wordsF_word _ _ _ (numL_no h0 h1) (by rw [List.nil_append]; exact numL_ne S), wordsF_word _ _ _ (lit_no (by decide)) (by simp), wordsF_word _ _ _ (hexL_no L) (by rw [List.nil_append]; exact hexL_ne L hL), wordsF_word _ _ _ (lit_no (by decide)) (by simp), wordsF_last _ _ (hexL_no M) (by rw [List.nil_append]; exact hexL_ne M hM)]
 simp only [List.nil_append]
theorem txL_split {S : Int} {L M : ByteArray} (h0 : 0 ≤ S) (h1 : S ≤ 50) : splS (strL (txL S L M)) spB = [strL [115, 105, 122, 101], strL (numL S), strL [108, 111, 103], hexV L, strL [109, 97, 112], hexV M] := by
 unfold txL
 rw [split_word _ _ (lit_bytes (by decide)) (lit_no (by decide)), split_word _ _ (numL_bytes h0 h1) (numL_no h0 h1), split_word _ _ (lit_bytes (by decide)) (lit_no (by decide)), split_word _ _ (hexL_bytes _) (hexL_no L), split_word _ _ (lit_bytes (by decide)) (lit_no (by decide)), split_last _ (hexL_bytes _) (hexL_no M)]
 rfl
theorem isText_one (t : ByteArray) : gq12 [t] = some (decide (t.size ≤ 65536)) := by
 rw [isText_eq [t] (by simp)]
 simp [isTx]
def StmAns (t : ByteArray) (r : Option (Int × ByteArray × ByteArray × Int)) : Prop :=
 r = some (0, ByteArray.empty, ByteArray.empty, 3) ∨ ∃ S L M, stmOK S L M = true ∧ txV S L M = t ∧ r = some (S, L, M, 0)
theorem iStm_ans (t : ByteArray) (ht : t.size ≤ 65536) : StmAns t (gq5 t) := by
 unfold gq5 gq5.F
 rw [isText_one, decide_t ht, bs, Bool.not_true, cf, show (⟨#[32]⟩ : ByteArray) = spB from rfl, split_some t (by omega), bs]
 have hsz : ∀ x ∈ splS t spB, x.size ≤ 65536 := fun x hx => by
  rw [splS_eq] at hx
  have := split_size spB _ t x hx
  omega
 generalize splS t spB = r1 at hsz ⊢
 by_cases h6 : r1.length = 6
 ·rw [show ((r1.length : Int) != 6) = false by simp [h6], cf, grd_of (gIx_t (by decide) (by omega))]
  have hw : ∀ i : Nat, i < 6 → (rdE (.str : Kd) r1 i).size ≤ 65536 := fun i hi => by
   rw [rdE_at (k := .str) (show i < r1.length by omega)]
   exact hsz _ (List.getElem_mem _)
  rw [rn_some _ (hw (Int.toNat 1) (by decide)), bs, grd_of (gIx_t (by decide) (by omega))]
  obtain ⟨a, b, e1⟩ := readHash_tot (rdE (.str : Kd) r1 (Int.toNat 3))
  obtain ⟨a', b', e2⟩ := readHash_tot (rdE (.str : Kd) r1 (Int.toNat 5))
  rw [e1, bs, grd_of (gIx_t (by decide) (by omega)), e2, bs, statementOK_i, bs]
  dsimp only
  cases hS : stmOK (rdnI (rdE (.str : Kd) r1 (Int.toNat 1))) a a' with
  | false => exact .inl rfl
  | true =>
   rw [Bool.not_true, cf, text_i hS, bs, sEq_dec]
   by_cases he : txV (rdnI (rdE (.str : Kd) r1 (Int.toNat 1))) a a' = t
   ·rw [decide_t he, Bool.not_true, cf]
    exact .inr ⟨_, _, _, hS, he, rfl⟩
   ·rw [decide_f he]
    exact .inl rfl
 ·rw [show ((r1.length : Int) != 6) = true by simp; omega, ct]
  exact .inl rfl
theorem iStm_hit (S : Int) (L M : ByteArray) (h : stmOK S L M = true) : gq5 (txV S L M) = some (S, L, M, 0) := by
 obtain ⟨⟨h0, h1⟩, hL, hM⟩ := stm_parts h
 have hsz := txV_size h
 unfold gq5 gq5.F
 rw [isText_one, decide_t (by omega), bs, Bool.not_true, cf, show (⟨#[32]⟩ : ByteArray) = spB from rfl, split_some _ (by omega), bs, show splS (txV S L M) spB = [strL [115, 105, 122, 101], strL (numL S), strL [108, 111, 103], hexV L, strL [109, 97, 112], hexV M] from by rw [txV_list]; exact txL_split h0 h1]
 rw [show (((([strL [115, 105, 122, 101], strL (numL S), strL [108, 111, 103], hexV L, strL [109, 97, 112], hexV M] : List ByteArray).length : Nat) : Int) != 6) = false from rfl, cf, grd_of (gIx_t (by decide) (by simp))]
 rw [show gq14 (rdE (.str : Kd) [strL [115, 105, 122, 101], strL (numL S), strL [108, 111, 103], hexV L, strL [109, 97, 112], hexV M] (Int.toNat 1)) = some (S, true) from rn_num S h0 h1, bs, grd_of (gIx_t (by decide) (by simp)), show gq15 (rdE (.str : Kd) [strL [115, 105, 122, 101], strL (numL S), strL [108, 111, 103], hexV L, strL [109, 97, 112], hexV M] (Int.toNat 3)) = some (L, true) from readHash_hex L hL, bs, grd_of (gIx_t (by decide) (by simp)), show gq15 (rdE (.str : Kd) [strL [115, 105, 122, 101], strL (numL S), strL [108, 111, 103], hexV L, strL [109, 97, 112], hexV M] (Int.toNat 5)) = some (M, true) from readHash_hex M hM, bs, statementOK_i, bs, h, Bool.not_true, cf, text_i h, bs, sEq_self, Bool.not_true, cf]
theorem sStm_ans (t : ByteArray) (ht : t.size ≤ 65536) : StmAns t (gq4 t) := by
 unfold gq4 gq4.F
 rw [decide_f (by omega), cf]
 have hw := words_s (bytesL t) (IsBytes.bytesL t) (by rw [bytesL_length]; exact ht)
 rw [strL_bytesL] at hw
 rw [hw, bs]
 generalize (wordsF [] (bytesL t)).map strL = r1
 by_cases h6 : r1.length = 6
 ·rw [show ((r1.length : Int) != 6) = false by simp [h6], cf]
  by_cases h2 : (t.size : Int) > 200
  ·rw [decide_t h2, ct]
   exact .inl rfl
  rw [decide_f h2, cf, grd_of (gIx_t (by decide) (by omega))]
  obtain ⟨n, ok, e0⟩ := snum_tot (rdE (.str : Kd) r1 (Int.toNat 1))
  obtain ⟨a, c, e1⟩ := sReadHash_tot (rdE (.str : Kd) r1 (Int.toNat 3))
  obtain ⟨a', d, e2⟩ := sReadHash_tot (rdE (.str : Kd) r1 (Int.toNat 5))
  rw [e0, bs, grd_of (gIx_t (by decide) (by omega)), e1, bs, grd_of (gIx_t (by decide) (by omega)), e2, bs]
  dsimp only
  cases ok with
  | false => exact .inl rfl
  | true =>
   rw [Bool.not_true, cf]
   cases (c != 0) with
   | true => exact .inl rfl
   | false =>
    rw [cf]
    cases (d != 0) with
    | true => exact .inl rfl
    | false =>
     rw [cf, statement_s, bs]
     cases hS : stmOK n a a' with
     | false => exact .inl rfl
     | true =>
      rw [Bool.not_true, cf, text_s hS, bs, sEq_dec]
      by_cases he : txV n a a' = t
      ·rw [decide_t he, Bool.not_true, cf]
       exact .inr ⟨_, _, _, hS, he, rfl⟩
      ·rw [decide_f he]
       exact .inl rfl
 ·rw [show ((r1.length : Int) != 6) = true by simp; omega, ct]
  exact .inl rfl
theorem sStm_hit (S : Int) (L M : ByteArray) (h : stmOK S L M = true) : gq4 (txV S L M) = some (S, L, M, 0) := by
 obtain ⟨⟨h0, h1⟩, hL, hM⟩ := stm_parts h
 have hsz := txV_size h
 have hlen : (txL S L M).length ≤ 65536 := by rw [← strL_size, ← txV_list]; omega
 unfold gq4 gq4.F
 rw [decide_f (by omega), cf, show gq7 (txV S L M) = some ((wordsF [] (txL S L M)).map strL) from by rw [txV_list]; exact words_s _ (txL_bytes h0 h1) hlen, bs, txL_words h0 h1 hL hM]
 simp only [List.map_cons, List.map_nil]
 rw [show (((([strL [115, 105, 122, 101], strL (numL S), strL [108, 111, 103], strL (hexL (bytesL L)), strL [109, 97, 112], strL (hexL (bytesL M))] : List ByteArray).length : Nat) : Int) != 6) = false from rfl, cf, decide_f (by omega), cf, grd_of (gIx_t (by decide) (by simp))]
 rw [show gq8 (rdE (.str : Kd) [strL [115, 105, 122, 101], strL (numL S), strL [108, 111, 103], strL (hexL (bytesL L)), strL [109, 97, 112], strL (hexL (bytesL M))] (Int.toNat 1)) = some (S, true) from snum_num S h0 h1, bs, grd_of (gIx_t (by decide) (by simp)), show gq9 (rdE (.str : Kd) [strL [115, 105, 122, 101], strL (numL S), strL [108, 111, 103], strL (hexL (bytesL L)), strL [109, 97, 112], strL (hexL (bytesL M))] (Int.toNat 3)) = some (L, 0) from sReadHash_hex L hL, bs, grd_of (gIx_t (by decide) (by simp)), show gq9 (rdE (.str : Kd) [strL [115, 105, 122, 101], strL (numL S), strL [108, 111, 103], strL (hexL (bytesL L)), strL [109, 97, 112], strL (hexL (bytesL M))] (Int.toNat 5)) = some (M, 0) from sReadHash_hex M hM, bs]
 dsimp only
 rw [Bool.not_true, cf, show ((0 : Int) != 0) = false from rfl, cf, cf, statement_s, bs, h, Bool.not_true, cf, text_s h, bs, sEq_self, Bool.not_true, cf]
theorem eqStatement_self (S : Int) (L M : ByteArray) : gq6 S L M S L M = some true := by
 unfold gq6 gq6.F
 rw [bne_self_eq_false, cf, sEq_self, Bool.not_true, cf, sEq_self, Bool.not_true, cf]
theorem stm_same (t : ByteArray) (ht : t.size ≤ 65536) : ∃ r, gq4 t = some r ∧ gq5 t = some r := by
 rcases sStm_ans t ht with h | ⟨S, L, M, h1, rfl, h3⟩
 ·rcases iStm_ans t ht with k | ⟨S, L, M, h1, rfl, h3⟩
  ·exact ⟨_, h, k⟩
  ·exact ⟨_, sStm_hit S L M h1, h3⟩
 ·exact ⟨_, h3, iStm_hit S L M h1⟩
theorem pFnExactReadStatement : ∀ (x0 : El .str), (ByteArray.size x0 ≤ 140737488351232) → gq3 x0 = some true := by
 intro t ht0
 unfold gq3 gq3.F
 by_cases h0 : (ByteArray.size t : Int) > 1048576
 ·rw [decide_t h0, ct]
 rw [decide_f h0, cf]
 by_cases h1 : t.size ≤ 65536
 ·obtain ⟨⟨S, L, M, c⟩, e1, e2⟩ := stm_same t h1
  rw [e1, e2, bs, bs]
  dsimp only
  rw [eqStatement_self, bs, Bool.not_true, cf, bne_self_eq_false, cf]
 ·have e1 : gq4 t = some (0, ByteArray.empty, ByteArray.empty, 2) := by
   unfold gq4 gq4.F
   rw [decide_t (by omega), ct]
  have e2 : gq5 t = some (0, ByteArray.empty, ByteArray.empty, 2) := by
   unfold gq5 gq5.F
   rw [isText_one, decide_f (by omega)]
   rfl
  rw [e1, e2, bs, bs]
  dsimp only
  rw [eqStatement_self, bs, Bool.not_true, cf, bne_self_eq_false, cf]
end Go.Proofs.YtdhifkdijlghdaaDoorA
