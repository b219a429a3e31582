/-
  Bytes and texts: numbers of some bytes, cuts. Without any program.
  Own text of this seat (a session's); YtaifnabbijikeaaDoor stands for the seat's name.
-/
import Derived.Test.YtaifnabbijikeaaDoorXPure
import Derived.Laws.BytesArg
import Derived.Lib.Strings
namespace Go.Proofs.YtaifnabbijikeaaDoorX
open Go.RowKit Go.Proofs.YtaifnabbijikeaaDoorW.PrintWords
set_option linter.unusedVariables false
set_option linter.unusedSimpArgs false
/-- A number of bytes, the highest first, behind what there is. -/
def beN : Int → List Int → Int
  | a, [] => a
  | a, x :: xs => beN (a * 256 + x) xs
def IsBytes (l : List Int) : Prop := ∀ y ∈ l, 0 ≤ y ∧ y < 256
theorem IsBytes.drop {l : List Int} (h : IsBytes l) (n : Nat) : IsBytes (l.drop n) := fun y hy => h y (List.mem_of_mem_drop hy)
theorem IsBytes.take {l : List Int} (h : IsBytes l) (n : Nat) : IsBytes (l.take n) := fun y hy => h y (List.mem_of_mem_take hy)
theorem isBytes_of_wf {l : List Int} (h : ∀ y ∈ l, (Lit.int .u8 y).wf = true) : IsBytes l := fun y hy => by
  have := h y hy
  simp [Lit.wf, IntKind.min, IntKind.max, IntKind.signed, IntKind.bits] at this
  omega
theorem strOf_size (l : List Int) : (strOfNums l).size = l.length := by
  show (List.toArray _).size = _
  simp
theorem strOf_list (l : List Int) : (strOfNums l).data.toList = l.map fun n => UInt8.ofNat n.toNat := by
  simp [strOfNums]
theorem byteArray_ext {a b : ByteArray} (h : a.data.toList = b.data.toList) : a = b := by
  obtain ⟨⟨l⟩⟩ := a
  obtain ⟨⟨m⟩⟩ := b
  simp at h
  subst h
  rfl
theorem strOf_extract (l : List Int) (a b : Nat) : (strOfNums l).extract a b = strOfNums ((l.take b).drop a) := by
  apply byteArray_ext
  rw [Lib.extract_data, strOf_list, strOf_list, ← List.map_drop, ← List.map_take, List.drop_take]
theorem strOf_bt (l : List Int) (h : IsBytes l) (i : Int) (h0 : 0 ≤ i) (h1 : i < l.length) : bt (strOfNums l) i = l.getD i.toNat 0 := by
  have hi : i.toNat < l.length := by omega
  have hs : i.toNat < (strOfNums l).size := by rw [strOf_size]; exact hi
  unfold bt
  rw [dif_pos hs]
  have e : (strOfNums l)[i.toNat]'hs = UInt8.ofNat (l[i.toNat]).toNat := by
    show (strOfNums l).data[i.toNat]'_ = _
    simp [strOfNums]
  rw [e, List.getD_eq_getElem?_getD, List.getElem?_eq_getElem hi]
  have := h l[i.toNat] (List.getElem_mem _)
  simp
  omega
theorem strOf_nil : strOfNums [] = (⟨#[]⟩ : ByteArray) := rfl
theorem strOf_empty {l : List Int} : (strOfNums l).toList = ([] : List UInt8) ↔ l = [] := by
  rw [size_zero_iff, strOf_size, List.length_eq_zero_iff]
theorem beN_bounds : ∀ (l : List Int) (a : Int), IsBytes l → 0 ≤ a → 0 ≤ beN a l ∧ beN a l < (a + 1) * 256 ^ l.length
  | [], a, _, ha => by simp [beN]; omega
  | x :: xs, a, h, ha => by
    have hx := h x List.mem_cons_self
    have ih := beN_bounds xs (a * 256 + x) (fun y hy => h y (List.mem_cons_of_mem _ hy)) (by omega)
    refine ⟨ih.1, Int.lt_of_lt_of_le ih.2 ?_⟩
    have e : (a + 1) * 256 ^ (x :: xs).length = ((a + 1) * 256) * 256 ^ xs.length := by
      rw [List.length_cons, Int.pow_succ, Int.mul_comm (256 ^ xs.length) 256, Int.mul_assoc]
    rw [e]
    exact Int.mul_le_mul_of_nonneg_right (by omega) (Int.pow_nonneg (by omega))
end Go.Proofs.YtaifnabbijikeaaDoorX
