/-
  Numbers, bytes and texts as the printed functions use them. No condition.
-/
import Derived.Test.YtdpjbeeokimnaaaAWord
import Derived.Laws.BytesArg
import Derived.Lib.Strings
namespace Go.Proofs.YtdpjbeeokimnaaaA
open Go
set_option linter.unusedVariables false
set_option linter.unusedSimpArgs false

/-! ### Guards -/
/-- These three hold by computing; stated so that a rewriting does not leave that to the kernel. -/
theorem bs {A B : Type} (a : A) (f : A → Option B) : Option.bind (some a) f = f a := id rfl
theorem ct {A : Type} (a b : A) : cond true a b = a := id rfl
theorem cf {A : Type} (a b : A) : cond false a b = b := id rfl
theorem grd_t {R : Type} (x : Option R) : grd true x = x := rfl
theorem grd_of {R : Type} {g : Bool} (h : g = true) (x : Option R) : grd g x = x := by rw [h]; rfl
theorem gIx_t {i : Int} {n : Nat} (h : 0 ≤ i) (h' : i < n) : gIx i n = true := by simp [gIx, h, h']
theorem gSl_t {l h : Int} {n : Nat} (h0 : 0 ≤ l) (h1 : l ≤ h) (h2 : h ≤ n) : gSl l h n = true := by simp [gSl, h0, h1, h2]
theorem gRm_t {n : Nat} (h : n ≤ 140737488355328) : gRm n = true := by simp [gRm, h]
theorem gCat_t {x y : ByteArray} (h : x.size + y.size ≤ 9223372036854775807) : gCat x y = true := by
  unfold gCat
  rw [decide_eq_true_iff]
  omega
theorem gSh_t {y : Int} (h : 0 ≤ y) : gSh y = true := by simp [gSh, h]
theorem gNz_t {y : Int} (h : y ≠ 0) : gNz y = true := by simp [gNz, h]
theorem gMk_t {l c : Int} {b : Nat} (h0 : 0 ≤ l) (h1 : l ≤ c) (h2 : c * b ≤ 140737488355328) : gMk l c b = true := by simp [gMk, h0, h1, h2]
theorem wr {x : Int} (h : -9223372036854775808 ≤ x) (h' : x ≤ 9223372036854775807) : IntKind.wrap .i64 x = x := by
  simp only [IntKind.wrap, IntKind.signed, IntKind.bits]
  simp
  omega
theorem wr8 {x : Int} (h : 0 ≤ x) (h' : x < 256) : IntKind.wrap .u8 x = x := by
  simp only [IntKind.wrap, IntKind.signed, IntKind.bits]
  simp
  omega
theorem wr8m (x : Int) : IntKind.wrap .u8 x = x % 256 := by
  simp only [IntKind.wrap, IntKind.signed, IntKind.bits]
  simp
theorem wr32m (x : Int) : IntKind.wrap .u32 x = x % 4294967296 := by
  simp only [IntKind.wrap, IntKind.signed, IntKind.bits]
  simp
theorem shl_eq {x : Int} {n : Int} (h0 : 0 ≤ n) (h1 : n ≤ 64) : iShl .i64 x n = IntKind.wrap .i64 (x * 2 ^ n.toNat) := by
  unfold iShl
  congr 3
  simp [IntKind.bits]
  omega
theorem shr_eq {x : Int} {n : Int} (h0 : 0 ≤ n) (h1 : n ≤ 64) : iShr .i64 x n = x / 2 ^ n.toNat := by
  unfold iShr
  rw [show min n.toNat (IntKind.bits .i64) = n.toNat by simp [IntKind.bits]; omega]
  rw [Int.fdiv_eq_ediv_of_nonneg]
  exact Int.pow_nonneg (by decide)
theorem shr8 (x : Int) : iShr .i64 x 8 = x / 256 := by rw [shr_eq (by decide) (by decide)]; rfl
theorem shr16 (x : Int) : iShr .i64 x 16 = x / 65536 := by rw [shr_eq (by decide) (by decide)]; rfl
theorem shr24 (x : Int) : iShr .i64 x 24 = x / 16777216 := by rw [shr_eq (by decide) (by decide)]; rfl
theorem shl8 (x : Int) : iShl .i64 x 8 = IntKind.wrap .i64 (x * 256) := by rw [shl_eq (by decide) (by decide)]; rfl
theorem tmod_pos {x y : Int} (h : 0 ≤ x) : Int.tmod x y = x % y := Int.tmod_eq_emod_of_nonneg h
theorem tdiv_pos {x y : Int} (h : 0 ≤ x) : Int.tdiv x y = x / y := Int.tdiv_eq_ediv_of_nonneg h

/-! ### Bytes -/
def IsBytes (l : List Int) : Prop := ∀ y ∈ l, 0 ≤ y ∧ y < 256
theorem IsBytes.nil : IsBytes [] := fun y h => by simp at h
theorem IsBytes.cons {a : Int} {l : List Int} (h0 : 0 ≤ a) (h1 : a < 256) (h : IsBytes l) : IsBytes (a :: l) := fun y hy => by
  rcases List.mem_cons.1 hy with rfl | hy
  · exact ⟨h0, h1⟩
  · exact h y hy
theorem IsBytes.append {l m : List Int} (h : IsBytes l) (h' : IsBytes m) : IsBytes (l ++ m) := fun y hy => (List.mem_append.1 hy).elim (h y) (h' y)
theorem IsBytes.left {l m : List Int} (h : IsBytes (l ++ m)) : IsBytes l := fun y hy => h y (List.mem_append.2 (.inl hy))
theorem IsBytes.right {l m : List Int} (h : IsBytes (l ++ m)) : IsBytes m := fun y hy => h y (List.mem_append.2 (.inr hy))
theorem IsBytes.drop {l : List Int} (h : IsBytes l) (n : Nat) : IsBytes (l.drop n) := fun y hy => h y (List.mem_of_mem_drop hy)
theorem IsBytes.take {l : List Int} (h : IsBytes l) (n : Nat) : IsBytes (l.take n) := fun y hy => h y (List.mem_of_mem_take hy)
theorem IsBytes.sub {l : List Int} (h : IsBytes l) (a b : Int) : IsBytes (sub l a b) := (h.take _).drop _
theorem IsBytes.get {l : List Int} (h : IsBytes l) {i : Nat} (hi : i < l.length) : 0 ≤ l[i] ∧ l[i] < 256 := h _ (List.getElem_mem _)
theorem IsBytes.bytesL (s : ByteArray) : IsBytes (bytesL s) := fun y hy => by
  obtain ⟨b, _, rfl⟩ := List.mem_map.1 hy
  have := b.toNat_lt
  omega
theorem isBytes_of_wf {l : List Int} (h : ∀ y ∈ l, (Lit.int .u8 y).wf = true) : IsBytes l := fun y hy => by
  have := h y hy
  simp [Lit.wf, IntKind.min, IntKind.max, IntKind.signed, IntKind.bits] at this
  omega
theorem ba_ext {a b : ByteArray} (h : a.data.toList = b.data.toList) : a = b := by
  obtain ⟨⟨l⟩⟩ := a
  obtain ⟨⟨m⟩⟩ := b
  simp at h
  subst h
  rfl
theorem strL_size (l : List Int) : (strL l).size = l.length := by
  show (List.toArray _).size = _
  simp
theorem bytesL_length (s : ByteArray) : (bytesL s).length = s.size := by simp [bytesL]
theorem strL_list (l : List Int) : (strL l).data.toList = l.map fun n => UInt8.ofNat n.toNat := by simp [strL]
theorem strL_bytesL (s : ByteArray) : strL (bytesL s) = s := by
  apply ba_ext
  rw [strL_list, bytesL, List.map_map]
  conv => rhs; rw [← List.map_id s.data.toList]
  apply List.map_congr_left
  intro b _
  simp
theorem bytesL_strL {l : List Int} (h : IsBytes l) : bytesL (strL l) = l := by
  unfold bytesL
  rw [strL_list, List.map_map]
  conv => rhs; rw [← List.map_id l]
  apply List.map_congr_left
  intro b hb
  have := h b hb
  simp
  omega
theorem strL_append (l m : List Int) : strL l ++ strL m = strL (l ++ m) := by
  apply ba_ext
  rw [ByteArray.data_append, Array.toList_append, strL_list, strL_list, strL_list, List.map_append]
theorem bytesL_append (s t : ByteArray) : bytesL (s ++ t) = bytesL s ++ bytesL t := by
  unfold bytesL
  rw [ByteArray.data_append, Array.toList_append, List.map_append]
theorem strL_nil : strL [] = ByteArray.empty := rfl
theorem cut_strL (l : List Int) (a b : Int) : cut (strL l) a b = strL (sub l a b) := by
  apply ba_ext
  unfold cut sub
  rw [Lib.extract_data, strL_list, strL_list, ← List.map_drop, ← List.map_take, List.drop_take]
theorem byteAt_strL {l : List Int} (h : IsBytes l) {i : Int} (h0 : 0 ≤ i) (h1 : i < l.length) : byteAt (strL l) i = l.getD i.toNat 0 := by
  have hi : i.toNat < l.length := by omega
  have hs : i.toNat < (strL l).size := by rw [strL_size]; exact hi
  unfold byteAt
  rw [dif_pos hs]
  have e : (strL l)[i.toNat]'hs = UInt8.ofNat (l[i.toNat]).toNat := by
    show (strL l).data[i.toNat]'_ = _
    simp [strL]
  rw [e, List.getD_eq_getElem?_getD, List.getElem?_eq_getElem hi]
  have := h l[i.toNat] (List.getElem_mem _)
  simp
  omega
theorem sEq_iff {a b : ByteArray} : sEq a b = true ↔ a = b := by
  unfold sEq
  rw [beq_iff_eq]
  constructor
  · intro h
    apply ba_ext
    rwa [ByteArray.toList_eq, ByteArray.toList_eq] at h
  · rintro rfl; rfl
theorem sEq_self (a : ByteArray) : sEq a a = true := sEq_iff.2 rfl
theorem strL_inj {l m : List Int} (hl : IsBytes l) (hm : IsBytes m) (h : strL l = strL m) : l = m := by rw [← bytesL_strL hl, ← bytesL_strL hm, h]
theorem bytesL_inj {s t : ByteArray} (h : bytesL s = bytesL t) : s = t := by rw [← strL_bytesL s, ← strL_bytesL t, h]
theorem sEq_strL {l m : List Int} (hl : IsBytes l) (hm : IsBytes m) : sEq (strL l) (strL m) = decide (l = m) := by
  rw [Bool.eq_iff_iff, sEq_iff, decide_eq_true_iff]
  exact ⟨strL_inj hl hm, fun h => by rw [h]⟩
theorem sEq_dec (a b : ByteArray) : sEq a b = decide (a = b) := by rw [Bool.eq_iff_iff, sEq_iff, decide_eq_true_iff]

/-! ### Rows -/
theorem sub_all {α : Type} (l : List α) {n : Int} (h : n = l.length) : sub l 0 n = l := by subst h; simp [sub]
theorem sub_take {α : Type} (l : List α) (n : Int) : sub l 0 n = l.take n.toNat := by simp [sub]
theorem sub_drop {α : Type} (l : List α) (n : Int) {m : Int} (h : m = l.length) : sub l n m = l.drop n.toNat := by subst h; simp [sub]
theorem sub_length {α : Type} (l : List α) {a b : Int} (h0 : 0 ≤ a) (h1 : a ≤ b) (h2 : b ≤ l.length) : ((sub l a b).length : Int) = b - a := by
  simp [sub]
  omega
theorem rdE_at {k : Kd} {l : List (El k)} {i : Nat} (h : i < l.length) : rdE k l i = l[i] := by
  unfold rdE
  rw [List.getD_eq_getElem?_getD, List.getElem?_eq_getElem h]
  rfl
theorem rdE_map {k k' : Kd} (f : El k → El k') {l : List (El k)} {i : Nat} (h : i < l.length) : rdE k' (l.map f) i = f (rdE k l i) := by
  rw [rdE_at h, rdE_at (by simpa using h)]
  simp
theorem take_snoc {α : Type} {l : List α} {i : Nat} (h : i < l.length) : l.take (i + 1) = l.take i ++ [l[i]] := by
  rw [List.take_add_one, List.getElem?_eq_getElem h]
  rfl
theorem take_rdE {k : Kd} {l : List (El k)} {i : Nat} (h : i < l.length) : l.take (i + 1) = l.take i ++ [rdE k l i] := by rw [rdE_at h, take_snoc h]
theorem drop_cons {α : Type} {l : List α} {i : Nat} (h : i < l.length) : l.drop i = l[i] :: l.drop (i + 1) := List.drop_eq_getElem_cons h
theorem decide_t {p : Prop} [Decidable p] (h : p) : decide p = true := decide_eq_true h
theorem decide_f {p : Prop} [Decidable p] (h : ¬ p) : decide p = false := decide_eq_false h
end Go.Proofs.YtdpjbeeokimnaaaA
