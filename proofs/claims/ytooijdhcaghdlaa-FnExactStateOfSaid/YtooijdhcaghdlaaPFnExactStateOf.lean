import Derived.Test.YtooijdhcaghdlaaAWord
import Derived.Laws.BytesArg
import Derived.Lib.Strings
import Derived.Test.YtooijdhcaghdlaaXuF2
import Derived.Test.YtooijdhcaghdlaaARow
namespace Go.Proofs.YtooijdhcaghdlaaA
open Go
set_option linter.unusedVariables false
set_option linter.unusedSimpArgs false
def gdT {V : Type} (lf fk : V → Bool) (at_ : V → Nat) (kb : V → List Bool) : Nat → Nat → Tree V → Option (List V)
 | 0, _, _ => none
 | d + 1, fr, t => match t.kids with
  | [] => if lf t.val then some [t.val] else none
  | [a, b] => if fk t.val && decide (fr ≤ at_ t.val) && decide (at_ t.val < 256) then
    (gdT lf fk at_ kb d (at_ t.val + 1) a).bind fun x => (gdT lf fk at_ kb d (at_ t.val + 1) b).bind fun y =>
     if (x.all fun p => !((kb p).getD (at_ t.val) false)) && (y.all fun p => (kb p).getD (at_ t.val) false) && ((x ++ y).all fun p => (kb p).take (at_ t.val) == (kb ((x ++ y).headD t.val)).take (at_ t.val)) then some (x ++ y) else none
   else none
  | _ => none
def ctT {V : Type} (lf fk : V → Bool) (at_ : V → Nat) (kb : V → List Bool) (first : Tree V → Option V) : Nat → Nat → List Bool → Nat → Tree V → Option Nat
 | 0, _, _, _, _ => none
 | d + 1, fr, pre, left, t => if left < 1 then none else match t.kids with
  | [] => if lf t.val && ((kb t.val).take pre.length == pre) then some 1 else none
  | [a, b] => if fk t.val && decide (fr ≤ at_ t.val) && decide (at_ t.val < 256) then
    (first t).bind fun f =>
     if decide (pre.length ≤ at_ t.val) && (((kb f).take (at_ t.val)).take pre.length == pre) then
      (ctT lf fk at_ kb first d (at_ t.val + 1) ((kb f).take (at_ t.val) ++ [false]) left a).bind fun n =>
       (ctT lf fk at_ kb first d (at_ t.val + 1) ((kb f).take (at_ t.val) ++ [true]) (left - n) b).bind fun m => some (n + m)
     else none
   else none
  | _ => none
def ftT {V : Type} (kk : V → Bool) : Nat → Tree V → Option V
 | 0, t => match t.kids with
  | [] => if kk t.val then some t.val else none
  | _ => none
 | d + 1, t => match t.kids with
  | [] => if kk t.val then some t.val else none
  | a :: _ => ftT kk d a
theorem gdT_ne {V : Type} {lf fk : V → Bool} {at_ : V → Nat} {kb : V → List Bool} : ∀ {d fr : Nat} {t : Tree V} {l : List V}, gdT lf fk at_ kb d fr t = some l → l ≠ []
 | 0, _, _, _, h => by simp [gdT] at h
 | d + 1, fr, t, l, h => by
  unfold gdT at h
  split at h
  ·split at h
   ·cases h; simp
   ·cases h
  ·split at h
   ·obtain ⟨x, hx, h⟩ := Option.bind_eq_some_iff.1 h
    obtain ⟨y, hy, h⟩ := Option.bind_eq_some_iff.1 h
    split at h
    ·cases h; have := gdT_ne hx; simp [this]
    ·cases h
   ·cases h
  ·cases h
theorem ftT_gd {V : Type} {lf fk kk : V → Bool} {at_ : V → Nat} {kb : V → List Bool} (hk : ∀ v, lf v = true → kk v = true) : ∀ {d fr : Nat} {t : Tree V} {l : List V}, gdT lf fk at_ kb d fr t = some l → ∀ e, 256 ≤ e + fr → ftT kk e t = l.head?
 | 0, _, _, _, h => by simp [gdT] at h
 | d + 1, fr, t, l, h => by
  intro e he
  unfold gdT at h
  split at h
  ·rename_i hk0
   split at h
   ·rename_i hlf
    cases h
    have : ftT kk e t = some t.val := by
     cases e <;> simp [ftT, hk0, hk _ hlf]
    rw [this]; rfl
   ·cases h
  ·rename_i a b hkids
   split at h
   ·rename_i hc
    simp only [Bool.and_eq_true, decide_eq_true_eq] at hc
    obtain ⟨x, hx, h⟩ := Option.bind_eq_some_iff.1 h
    obtain ⟨y, hy, h⟩ := Option.bind_eq_some_iff.1 h
    split at h
    ·cases h
     cases e with
     | zero => omega
     | succ e =>
      have := ftT_gd hk hx e (by omega)
      simp only [ftT, hkids]
      rw [this]
      have hne := gdT_ne hx
      cases x with
      | nil => exact absurd rfl hne
      | cons p q => rfl
    ·cases h
   ·cases h
  ·cases h
theorem takeB_snoc {l pre : List Bool} {b : Bool} (n : Nat) (hn : pre.length = n) (hl : n < l.length) : l.take (n + 1) = pre ++ [b] ↔ l.take n = pre ∧ l.getD n false = b := by
 rw [List.take_succ_eq_append_getElem hl]
 rw [show l.getD n false = l[n] by simp [List.getD, hl]]
 constructor
 ·intro h
  have := List.append_inj h (by simp [hn]; omega)
  simpa using this
 ·rintro ⟨h1, h2⟩
  rw [h1, h2]
theorem ctT_gd {V : Type} {lf fk : V → Bool} {at_ : V → Nat} {kb : V → List Bool} {first : Tree V → Option V} (hlen : ∀ v, (kb v).length = 256)
  (hf : ∀ d fr t l, gdT lf fk at_ kb d fr t = some l → first t = l.head?) : ∀ (d fr : Nat) (t : Tree V) (l : List V) (pre : List Bool) (left : Nat), gdT lf fk at_ kb d fr t = some l → pre.length = fr →
  ctT lf fk at_ kb first d fr pre left t = if (l.all fun p => (kb p).take fr == pre) && decide (l.length ≤ left) then some l.length else none
 | 0, _, _, _, _, _, h, _ => by simp [gdT] at h
 | d + 1, fr, t, l, pre, left, h, hp => by
  have h0 := h
  unfold gdT at h
  unfold ctT
  split at h
  ·rename_i hk
   split at h
   ·rename_i hlf
    cases h
    simp only [hlf, hp, Bool.true_and, List.all_cons, List.all_nil, Bool.and_true, List.length_cons, List.length_nil]
    by_cases hl : left < 1
    ·rw [if_pos hl, if_neg]; simp; intro _; omega
    ·rw [if_neg hl]
     have : decide (0 + 1 ≤ left) = true := by simp; omega
     rw [this, Bool.and_true]
   ·cases h
  ·rename_i a b hkids
   split at h
   ·rename_i hc
    obtain ⟨x, hx, h⟩ := Option.bind_eq_some_iff.1 h
    obtain ⟨y, hy, h⟩ := Option.bind_eq_some_iff.1 h
    split at h
    ·rename_i hall
     cases h
     rw [hf _ _ _ _ h0]
     have hxne := gdT_ne hx
     have hyne := gdT_ne hy
     obtain ⟨p, xs, rfl⟩ : ∃ p xs, x = p :: xs := by cases x with
      | nil => exact absurd rfl hxne
      | cons p xs => exact ⟨p, xs, rfl⟩
     simp only [Bool.and_eq_true, decide_eq_true_eq, List.all_eq_true, Bool.not_eq_true', beq_iff_eq, List.cons_append, List.headD_cons] at hall hc
     obtain ⟨⟨ha, hb⟩, hs⟩ := hall
     obtain ⟨⟨hfk, hfr⟩, hlt⟩ := hc
     simp only [hfk, hfr, hlt, decide_true, Bool.and_self, if_true, List.cons_append, List.head?_cons, Option.bind_some]
     generalize hA : at_ t.val = A at *
     have e1 := ctT_gd hlen hf d (A + 1) a (p :: xs) ((kb p).take A ++ [false]) left hx (by simp [hlen]; omega)
     have l1 : ((p :: xs).all fun q => (kb q).take (A + 1) == (kb p).take A ++ [false]) = true := by
      rw [List.all_eq_true]
      intro q hq
      rw [beq_iff_eq, takeB_snoc A (by simp [hlen]; omega) (by rw [hlen]; exact hlt)]
      exact ⟨hs q (by simp at hq ⊢; rcases hq with h | h <;> simp [h]), ha q hq⟩
     have l2 : (y.all fun q => (kb q).take (A + 1) == (kb p).take A ++ [true]) = true := by
      rw [List.all_eq_true]
      intro q hq
      rw [beq_iff_eq, takeB_snoc A (by simp [hlen]; omega) (by rw [hlen]; exact hlt)]
      exact ⟨hs q (by simp [hq]), hb q hq⟩
     rw [e1, l1, Bool.true_and]
     have hpre : (((kb p).take A).take pre.length == pre) = ((p :: (xs ++ y)).all fun q => (kb q).take fr == pre) := by
      have hk : ∀ q ∈ p :: (xs ++ y), (kb q).take fr = (kb p).take fr := by
       intro q hq
       have := congrArg (List.take fr) (hs q hq)
       rwa [List.take_take, List.take_take, Nat.min_eq_left hfr] at this
      rw [List.take_take, hp, Nat.min_eq_left hfr]
      cases hq : (kb p).take fr == pre with
      | true =>
       symm
       rw [List.all_eq_true]
       intro q hq2
       rw [hk q hq2]; exact hq
      | false =>
       symm
       rw [List.all_eq_false]
       exact ⟨p, by simp, by rw [hq]; simp⟩
     have hpa : decide (pre.length ≤ A) = true := by rw [decide_eq_true_iff, hp]; exact hfr
     rw [hpa, hpre, Bool.true_and]
     by_cases hl : left < 1
     ·rw [if_pos hl, if_neg]
      simp only [Bool.and_eq_true, decide_eq_true_eq, List.length_cons]
      omega
     ·rw [if_neg hl]
      cases hP : (p :: (xs ++ y)).all fun q => (kb q).take fr == pre with
      | false => simp
      | true =>
       simp only [if_true, Bool.true_and]
       by_cases h1 : (p :: xs).length ≤ left
       ·rw [if_pos (by simpa using h1), Option.bind_some]
        rw [ctT_gd hlen hf d (A + 1) b y _ _ hy (by simp [hlen]; omega), l2, Bool.true_and]
        by_cases h2 : y.length ≤ left - (p :: xs).length
        ·rw [if_pos (by simpa using h2), Option.bind_some, if_pos]
         ·simp; omega
         ·simp only [decide_eq_true_eq, List.length_cons, List.length_append] at h1 h2 ⊢; omega
        ·rw [if_neg (by simpa using h2), Option.bind_none, if_neg]
         simp only [decide_eq_true_eq, List.length_cons, List.length_append] at h1 h2 ⊢; omega
       ·rw [if_neg (by simpa using h1), Option.bind_none, if_neg]
        simp only [decide_eq_true_eq, List.length_cons, List.length_append] at h1 ⊢; omega
    ·cases h
   ·cases h
  ·cases h
theorem gdT_ct {V : Type} {lf fk : V → Bool} {at_ : V → Nat} {kb : V → List Bool} {first : Tree V → Option V} (hlen : ∀ v, (kb v).length = 256) : ∀ (d fr : Nat) (t : Tree V) (pre : List Bool) (left n : Nat), ctT lf fk at_ kb first d fr pre left t = some n → pre.length = fr → fr ≤ 256 →
  ∃ l, gdT lf fk at_ kb d fr t = some l ∧ (∀ p ∈ l, (kb p).take fr = pre)
 | 0, _, _, _, _, _, h, _, _ => by simp [ctT] at h
 | d + 1, fr, t, pre, left, n, h, hp, hfr => by
  unfold ctT at h
  unfold gdT
  split at h
  ·cases h
  ·split at h
   ·rename_i hk
    split at h
    ·rename_i hc
     simp only [Bool.and_eq_true, beq_iff_eq] at hc
     exact ⟨[t.val], by simp [hc.1], by simp [← hp, hc.2]⟩
    ·cases h
   ·rename_i a b hkids
    split at h
    ·rename_i hc
     obtain ⟨f, hf, h⟩ := Option.bind_eq_some_iff.1 h
     split at h
     ·rename_i hq
      obtain ⟨n1, h1, h⟩ := Option.bind_eq_some_iff.1 h
      obtain ⟨n2, h2, h⟩ := Option.bind_eq_some_iff.1 h
      have hc' := hc
      simp only [Bool.and_eq_true, decide_eq_true_eq, beq_iff_eq] at hc hq
      generalize hA : at_ t.val = A at *
      obtain ⟨x, hx, hx2⟩ := gdT_ct hlen d (A + 1) a _ _ _ h1 (by simp [hlen]; omega) (by omega)
      obtain ⟨y, hy, hy2⟩ := gdT_ct hlen d (A + 1) b _ _ _ h2 (by simp [hlen]; omega) (by omega)
      have tx : ∀ q ∈ x, (kb q).take A = (kb f).take A ∧ (kb q).getD A false = false := fun q hq => (takeB_snoc A (by simp [hlen]; omega) (by rw [hlen]; omega)).1 (hx2 q hq)
      have ty : ∀ q ∈ y, (kb q).take A = (kb f).take A ∧ (kb q).getD A false = true := fun q hq => (takeB_snoc A (by simp [hlen]; omega) (by rw [hlen]; omega)).1 (hy2 q hq)
      have txy : ∀ q ∈ x ++ y, (kb q).take A = (kb f).take A := fun q hq => by
       rcases List.mem_append.1 hq with h | h
       ·exact (tx q h).1
       ·exact (ty q h).1
      have hxne := gdT_ne hx
      obtain ⟨p, xs, rfl⟩ : ∃ p xs, x = p :: xs := by cases x with
       | nil => exact absurd rfl hxne
       | cons p xs => exact ⟨p, xs, rfl⟩
      refine ⟨p :: xs ++ y, ?_, fun q hq2 => ?_⟩
      ·rw [if_pos hc', hx, Option.bind_some, hy, Option.bind_some, if_pos]
       simp only [Bool.and_eq_true, List.all_eq_true, Bool.not_eq_true', beq_iff_eq, List.cons_append, List.headD_cons]
       exact ⟨⟨fun q hq => (tx q hq).2, fun q hq => (ty q hq).2⟩, fun q hq => (txy q hq).trans (txy p (by simp)).symm⟩
      ·have := congrArg (List.take fr) (txy q hq2)
       rw [List.take_take, List.take_take, Nat.min_eq_left (by omega)] at this
       rw [this, ← hq.2, hp, List.take_take, Nat.min_eq_left (by omega)]
     ·cases h
    ·cases h
   ·cases h
theorem ctT_eq {V : Type} {lf fk kk : V → Bool} {at_ : V → Nat} {kb : V → List Bool} (hlen : ∀ v, (kb v).length = 256) (hk : ∀ v, lf v = true → kk v = true) (e : Nat) (he : 256 ≤ e) (d : Nat) (t : Tree V) (left : Nat) :
  ctT lf fk at_ kb (ftT kk e) d 0 [] left t = (gdT lf fk at_ kb d 0 t).bind fun l => if l.length ≤ left then some l.length else none := by
 have hf : ∀ d fr t l, gdT lf fk at_ kb d fr t = some l → ftT kk e t = l.head? := fun d fr t l h => ftT_gd hk h e (by omega)
 cases hg : gdT lf fk at_ kb d 0 t with
 | some l =>
  rw [ctT_gd hlen hf d 0 t l [] left hg rfl, Option.bind_some]
  simp
 | none =>
  rw [Option.bind_none]
  cases hc : ctT lf fk at_ kb (ftT kk e) d 0 [] left t with
  | none => rfl
  | some n =>
   obtain ⟨l, hl, _⟩ := gdT_ct hlen d 0 t [] left n hc rfl (by omega)
   rw [hg] at hl; cases hl
end Go.Proofs.YtooijdhcaghdlaaA
namespace Go.Proofs.YtooijdhcaghdlaaA
open Go
set_option linter.unusedVariables false
set_option linter.unusedSimpArgs false
theorem bs {A B : Type} (a : A) (f : A → Option B) : Option.bind (some a) f = f a := id rfl
theorem ct {A : Type} (a b : A) : cond true a b = a := id rfl
theorem cf {A : Type} (a b : A) : cond false a b = b := id rfl
theorem grd_of {R : Type} {g : Bool} (h : g = true) (x : Option R) : grd g x = x := by rw [h]; rfl
theorem gIx_t {i : Int} {n : Nat} (h : 0 ≤ i) (h' : i < n) : gIx i n = true := by simp [gIx, h, h']
theorem gSl_t {l h : Int} {n : Nat} (h0 : 0 ≤ l) (h1 : l ≤ h) (h2 : h ≤ n) : gSl l h n = true := by simp [gSl, h0, h1, h2]
theorem gRm_t {n : Nat} (h : n ≤ 140737488355328) : gRm n = true := by simp [gRm, h]
theorem gCat_t {x y : ByteArray} (h : x.size + y.size ≤ 9223372036854775807) : gCat x y = true := by
 unfold gCat
 rw [decide_eq_true_iff]
 omega
theorem gSh_t {y : Int} (h : 0 ≤ y) : gSh y = true := by simp [gSh, h]
theorem gNz_t {y : Int} (h : y ≠ 0) : gNz y = true := by simp [gNz, h]
theorem gMk_t {l c : Int} {b : Nat} (h0 : 0 ≤ l) (h1 : l ≤ c) (h2 : c * b ≤ 140737488355328) : gMk l c b = true := by simp [gMk, h0, h1, h2]
theorem wr {x : Int} (h : -9223372036854775808 ≤ x) (h' : x ≤ 9223372036854775807) : IntKind.wrap .i64 x = x := by
 simp only [IntKind.wrap, IntKind.signed, IntKind.bits]
 simp
 omega
theorem wr8 {x : Int} (h : 0 ≤ x) (h' : x < 256) : IntKind.wrap .u8 x = x := by
 simp only [IntKind.wrap, IntKind.signed, IntKind.bits]
 simp
 omega
theorem wr8m (x : Int) : IntKind.wrap .u8 x = x % 256 := by
 simp only [IntKind.wrap, IntKind.signed, IntKind.bits]
 simp
theorem wr32m (x : Int) : IntKind.wrap .u32 x = x % 4294967296 := by
 simp only [IntKind.wrap, IntKind.signed, IntKind.bits]
 simp
theorem shr_eq {x : Int} {n : Int} (h0 : 0 ≤ n) (h1 : n ≤ 64) : iShr .i64 x n = x / 2 ^ n.toNat := by
 unfold iShr
 rw [show min n.toNat (IntKind.bits .i64) = n.toNat by simp [IntKind.bits]; omega]
 rw [Int.fdiv_eq_ediv_of_nonneg]
 exact Int.pow_nonneg (by decide)
theorem shr8 (x : Int) : iShr .i64 x 8 = x / 256 := by rw [shr_eq (by decide) (by decide)]; rfl
theorem tmod_pos {x y : Int} (h : 0 ≤ x) : Int.tmod x y = x % y := Int.tmod_eq_emod_of_nonneg h
theorem tdiv_pos {x y : Int} (h : 0 ≤ x) : Int.tdiv x y = x / y := Int.tdiv_eq_ediv_of_nonneg h
def IsBytes (l : List Int) : Prop := ∀ y ∈ l, 0 ≤ y ∧ y < 256
theorem IsBytes.nil : IsBytes [] := fun y h => by simp at h
theorem IsBytes.cons {a : Int} {l : List Int} (h0 : 0 ≤ a) (h1 : a < 256) (h : IsBytes l) : IsBytes (a :: l) := fun y hy => by
 rcases List.mem_cons.1 hy with rfl | hy
 ·exact ⟨h0, h1⟩
 ·exact h y hy
theorem IsBytes.append {l m : List Int} (h : IsBytes l) (h' : IsBytes m) : IsBytes (l ++ m) := fun y hy => (List.mem_append.1 hy).elim (h y) (h' y)
theorem IsBytes.left {l m : List Int} (h : IsBytes (l ++ m)) : IsBytes l := fun y hy => h y (List.mem_append.2 (.inl hy))
theorem IsBytes.right {l m : List Int} (h : IsBytes (l ++ m)) : IsBytes m := fun y hy => h y (List.mem_append.2 (.inr hy))
theorem IsBytes.drop {l : List Int} (h : IsBytes l) (n : Nat) : IsBytes (l.drop n) := fun y hy => h y (List.mem_of_mem_drop hy)
theorem IsBytes.take {l : List Int} (h : IsBytes l) (n : Nat) : IsBytes (l.take n) := fun y hy => h y (List.mem_of_mem_take hy)
theorem IsBytes.sub {l : List Int} (h : IsBytes l) (a b : Int) : IsBytes (sub l a b) := (h.take _).drop _
theorem IsBytes.get {l : List Int} (h : IsBytes l) {i : Nat} (hi : i < l.length) : 0 ≤ l[i] ∧ l[i] < 256 := h _ (List.getElem_mem _)
theorem IsBytes.bytesL (s : ByteArray) : IsBytes (bytesL s) := fun y hy => by
 obtain ⟨b, _, rfl⟩ := List.mem_map.1 hy
 have := b.toNat_lt
 omega
theorem ba_ext {a b : ByteArray} (h : a.data.toList = b.data.toList) : a = b := by
 obtain ⟨⟨l⟩⟩ := a
 obtain ⟨⟨m⟩⟩ := b
 simp at h
 subst h
 rfl
theorem strL_size (l : List Int) : (strL l).size = l.length := by
 show (List.toArray _).size = _
 simp
theorem bytesL_length (s : ByteArray) : (bytesL s).length = s.size := by simp [bytesL]
theorem strL_list (l : List Int) : (strL l).data.toList = l.map fun n => UInt8.ofNat n.toNat := by simp [strL]
theorem strL_bytesL (s : ByteArray) : strL (bytesL s) = s := by
 apply ba_ext
 rw [strL_list, bytesL, List.map_map]
 conv => rhs; rw [← List.map_id s.data.toList]
 apply List.map_congr_left
 intro b _
 simp
theorem bytesL_strL {l : List Int} (h : IsBytes l) : bytesL (strL l) = l := by
 unfold bytesL
 rw [strL_list, List.map_map]
 conv => rhs; rw [← List.map_id l]
 apply List.map_congr_left
 intro b hb
 have := h b hb
 simp
 omega
theorem strL_append (l m : List Int) : strL l ++ strL m = strL (l ++ m) := by
 apply ba_ext
 rw [ByteArray.data_append, Array.toList_append, strL_list, strL_list, strL_list, List.map_append]
theorem cut_strL (l : List Int) (a b : Int) : cut (strL l) a b = strL (sub l a b) := by
 apply ba_ext
 unfold cut sub
 rw [Lib.extract_data, strL_list, strL_list, ← List.map_drop, ← List.map_take, List.drop_take]
theorem byteAt_strL {l : List Int} (h : IsBytes l) {i : Int} (h0 : 0 ≤ i) (h1 : i < l.length) : byteAt (strL l) i = l.getD i.toNat 0 := by
 have hi : i.toNat < l.length := by omega
 have hs : i.toNat < (strL l).size := by rw [strL_size]; exact hi
 unfold byteAt
 rw [dif_pos hs]
 have e : (strL l)[i.toNat]'hs = UInt8.ofNat (l[i.toNat]).toNat := by
  show (strL l).data[i.toNat]'_ = _
  simp [strL]
 rw [e, List.getD_eq_getElem?_getD, List.getElem?_eq_getElem hi]
 have := h l[i.toNat] (List.getElem_mem _)
 simp
 omega
theorem sEq_iff {a b : ByteArray} : sEq a b = true ↔ a = b := by
 unfold sEq
 rw [beq_iff_eq]
 constructor
 ·intro h
  apply ba_ext
  rwa [ByteArray.toList_eq, ByteArray.toList_eq] at h
 ·rintro rfl; rfl
theorem sEq_self (a : ByteArray) : sEq a a = true := sEq_iff.2 rfl
theorem strL_inj {l m : List Int} (hl : IsBytes l) (hm : IsBytes m) (h : strL l = strL m) : l = m := by rw [← bytesL_strL hl, ← bytesL_strL hm, h]
theorem sEq_strL {l m : List Int} (hl : IsBytes l) (hm : IsBytes m) : sEq (strL l) (strL m) = decide (l = m) := by
 rw [Bool.eq_iff_iff, sEq_iff, decide_eq_true_iff]
 exact ⟨strL_inj hl hm, fun h => by rw [h]⟩
theorem sub_take {α : Type} (l : List α) (n : Int) : sub l 0 n = l.take n.toNat := by simp [sub]
theorem sub_length {α : Type} (l : List α) {a b : Int} (h0 : 0 ≤ a) (h1 : a ≤ b) (h2 : b ≤ l.length) : ((sub l a b).length : Int) = b - a := by
 simp [sub]
 omega
theorem rdE_at {k : Kd} {l : List (El k)} {i : Nat} (h : i < l.length) : rdE k l i = l[i] := by
 unfold rdE
 rw [List.getD_eq_getElem?_getD, List.getElem?_eq_getElem h]
 rfl
theorem take_snoc {α : Type} {l : List α} {i : Nat} (h : i < l.length) : l.take (i + 1) = l.take i ++ [l[i]] := by
 rw [List.take_add_one, List.getElem?_eq_getElem h]
 rfl
theorem drop_cons {α : Type} {l : List α} {i : Nat} (h : i < l.length) : l.drop i = l[i] :: l.drop (i + 1) := List.drop_eq_getElem_cons h
theorem decide_t {p : Prop} [Decidable p] (h : p) : decide p = true := decide_eq_true h
theorem decide_f {p : Prop} [Decidable p] (h : ¬ p) : decide p = false := decide_eq_false h
end Go.Proofs.YtooijdhcaghdlaaA
namespace Go.Proofs.YtooijdhcaghdlaaA
open Go
set_option linter.unusedVariables false
set_option linter.unusedSimpArgs false
theorem fuel_big {n : Nat} (h : n < 18446744073709551616) : n < fuel := by rw [fuel_eq]; exact h
theorem copy_loop {k : Kd} {R : Type} {L : Nat → Int → List (El k) → Option R} {a : List (El k)} {fin : List (El k) → Option R}
  (hs : ∀ (n i : Nat) (out : List (El k)) (h : i < a.length), out.length = a.length → L (n + 1) i out = L n ((i + 1 : Nat) : Int) (out.set i a[i])) (h0 : ∀ n out, L (n + 1) a.length out = fin out) :
  ∀ (m n i : Nat) (out : List (El k)), i + m = a.length → m < n → out.length = a.length → out.take i = a.take i → L n i out = fin a
 | 0, n + 1, i, out, e, _, hl, ht => by
  have : i = a.length := by omega
  subst this
  rw [h0]
  congr 1
  rw [List.take_of_length_le (by omega), List.take_of_length_le (Nat.le_refl _)] at ht
  exact ht
 | m + 1, n + 1, i, out, e, hn, hl, ht => by
  have hi : i < a.length := by omega
  rw [hs n i out hi hl]
  refine copy_loop hs h0 m n (i + 1) _ (by omega) (by omega) (by simpa using hl) ?_
  rw [take_snoc (by simpa using (show i < out.length by omega)), take_snoc hi, List.getElem_set_self, List.take_set_of_le (Nat.le_refl _), ht]
theorem pass_loop {R S : Type} {L : Nat → S → Int → Option R} {len : Nat} {step : S → Nat → S} {fin : S → Option R} (Inv : Nat → S → Prop)
  (hs : ∀ n s i, i < len → Inv i s → L (n + 1) s (i : Int) = L n (step s i) ((i + 1 : Nat) : Int)) (hI : ∀ s i, i < len → Inv i s → Inv (i + 1) (step s i)) (h0 : ∀ n s, Inv len s → L (n + 1) s (len : Int) = fin s) :
  ∀ (m n i : Nat) (s : S), i + m = len → m < n → Inv i s → ∃ s', L n s i = fin s' ∧ Inv len s'
 | 0, n + 1, i, s, e, _, hi => by
  have : i = len := by omega
  subst this
  exact ⟨s, h0 n s hi, hi⟩
 | m + 1, n + 1, i, s, e, hn, hi => by
  have h1 : i < len := by omega
  rw [hs n s i h1 hi]
  exact pass_loop Inv hs hI h0 m n (i + 1) _ (by omega) (by omega) (hI s i h1 hi)
end Go.Proofs.YtooijdhcaghdlaaA
namespace Go.Proofs.YtooijdhcaghdlaaA
open Go
set_option linter.unusedVariables false
set_option linter.unusedSimpArgs false
theorem fuel_gt {n : Nat} (h : n < 18446744073709551616) : ∃ m, fuel = n + m + 1 := ⟨fuel - n - 1, by rw [fuel_eq]; omega⟩
def beL (n : Int) : Nat → List Int
 | 0 => []
 | m + 1 => beL (n / 256) m ++ [n % 256]
theorem beL_length (n : Int) (m : Nat) : (beL n m).length = m := by
 induction m generalizing n with
 | zero => rfl
 | succ m ih => simp [beL, ih]
theorem beL_bytes (n : Int) (m : Nat) : IsBytes (beL n m) := by
 induction m generalizing n with
 | zero => exact IsBytes.nil
 | succ m ih => exact (ih _).append (IsBytes.cons (by omega) (by omega) IsBytes.nil)
theorem number_l1 {R : Type} (kk : List Int → Option R) : ∀ (j n : Nat) (x : Int) (out : List Int), j ≤ out.length → j < 1000 → j < n → gq87.l1 kk n x ((j : Int) - 1) out = kk (beL x j ++ out.drop j)
 | 0, n + 1, x, out, _, _, _ => by
  simp only [gq87.l1, decide_f (show ¬ ((0 : Nat) : Int) - 1 ≥ 0 by omega), cond_false]
  simp [beL]
 | j + 1, n + 1, x, out, h1, h2, h3 => by
  have e : (((j + 1 : Nat) : Int) - 1) = j := by omega
  rw [e]
  simp only [gq87.l1]
  rw [decide_t (by omega : (j : Int) ≥ 0), cond_true, grd_of (gIx_t (by omega) (by omega)), grd_of (gSh_t (by omega)), wr (by omega) (by omega), shr8, wr8m]
  rw [number_l1 kk j n (x / 256) _ (by simp [setE]; omega) (by omega) (by omega)]
  congr 1
  have hj : j < out.length := by omega
  simp only [setE, Int.toNat_natCast, beL, List.append_assoc]
  congr 1
  rw [List.drop_set_of_lt_drop hj]
where
 List.drop_set_of_lt_drop {out : List Int} {j : Nat} {a : Int} (hj : j < out.length) : (out.set j a).drop j = [a] ++ out.drop (j + 1) := by
  rw [List.drop_eq_getElem_cons (by simpa using hj), List.getElem_set_self, List.drop_set_of_lt (by omega)]
  rfl
theorem number_eq (x : Int) (m : Nat) (h : m < 1000) : gq87 x m = some (strL (beL x m)) := by
 obtain ⟨q, hq⟩ := fuel_gt (n := m) (by omega)
 have hl : (List.replicate (Int.toNat (m : Int)) (0 : Int)).length = m := by simp
 unfold gq87 gq87.F
 rw [grd_of (gMk_t (by omega) (by omega) (by omega)), wr (by omega) (by omega), number_l1 _ m fuel x _ (by omega) h (by omega)]
 congr 2
 rw [List.drop_of_length_le (by omega), List.append_nil]
theorem within_eq (n lo hi : Int) : gq34 n lo hi = some (decide (lo ≤ n) && decide (n ≤ hi)) := by
 unfold gq34 gq34.F
 by_cases h : n ≥ lo
 ·simp [h]
 ·simp [h]
theorem l01In_eq (n lo hi : Int) : gq32 n lo hi = some (decide (lo ≤ n) && decide (n ≤ hi)) := by
 unfold gq32 gq32.F
 by_cases h : n ≥ lo
 ·simp [h]
 ·simp [h]
end Go.Proofs.YtooijdhcaghdlaaA
namespace Go.Proofs.YtooijdhcaghdlaaA
open Go
set_option linter.unusedVariables false
set_option linter.unusedSimpArgs false
theorem bits32 (f : BitVec 32 → BitVec 32 → BitVec 32) (x y : Int) : bits .u32 f x y = ((f (BitVec.ofInt 32 x) (BitVec.ofInt 32 y)).toNat : Int) := by
 show IntKind.wrap .u32 ((f (BitVec.ofInt 32 x) (BitVec.ofInt 32 y)).toNat : Int) = _
 rw [wr32m]
 have := (f (BitVec.ofInt 32 x) (BitVec.ofInt 32 y)).isLt
 omega
theorem w32 (b : BitVec 32) : BitVec.ofInt 32 (b.toNat : Int) = b := by
 rw [BitVec.ofInt_natCast, BitVec.ofNat_toNat, BitVec.setWidth_eq]
theorem and32 (x y : Int) : iAnd .u32 x y = ((BitVec.ofInt 32 x &&& BitVec.ofInt 32 y).toNat : Int) := bits32 _ x y
theorem or32 (x y : Int) : iOr .u32 x y = ((BitVec.ofInt 32 x ||| BitVec.ofInt 32 y).toNat : Int) := bits32 _ x y
theorem xor32 (x y : Int) : iXor .u32 x y = ((BitVec.ofInt 32 x ^^^ BitVec.ofInt 32 y).toNat : Int) := bits32 _ x y
theorem or32_comm (x y : Int) : iOr .u32 x y = iOr .u32 y x := by rw [or32, or32, BitVec.or_comm]
theorem max32 : BitVec.ofInt 32 (IntKind.max .u32) = BitVec.allOnes 32 := by decide
theorem ch32 (e f g : Int) : iXor .u32 (iAnd .u32 e f) (iAnd .u32 (iXor .u32 (IntKind.max .u32) e) g) = iOr .u32 (iAnd .u32 e f) (iAnd .u32 (iXor .u32 (IntKind.max .u32) e) g) := by
 simp only [and32, or32, xor32, w32, max32]
 congr 2
 ext i hi
 simp only [BitVec.getElem_xor, BitVec.getElem_and, BitVec.getElem_or, BitVec.getElem_allOnes]
 cases (BitVec.ofInt 32 e)[i] <;> cases (BitVec.ofInt 32 f)[i] <;> cases (BitVec.ofInt 32 g)[i] <;> rfl
theorem maj32 (a b c : Int) : iXor .u32 (iXor .u32 (iAnd .u32 a b) (iAnd .u32 a c)) (iAnd .u32 b c) = iOr .u32 (iOr .u32 (iAnd .u32 a b) (iAnd .u32 a c)) (iAnd .u32 b c) := by
 simp only [and32, or32, xor32, w32]
 congr 2
 ext i hi
 simp only [BitVec.getElem_xor, BitVec.getElem_and, BitVec.getElem_or]
 cases (BitVec.ofInt 32 a)[i] <;> cases (BitVec.ofInt 32 b)[i] <;> cases (BitVec.ofInt 32 c)[i] <;> rfl
def rot (x b : Int) : Int := iOr .u32 (iShr .u32 x b) (iShl .u32 x (32 - b))
def Turns : List Int := [7, 18, 17, 19, 6, 11, 25, 2, 13, 22]
theorem rot_s (x b : Int) (h : b ∈ Turns) : gq92 x b = some (rot x b) := by
 have h0 : 0 ≤ b ∧ b ≤ 32 := by
  simp only [Turns, List.mem_cons, List.mem_nil_iff, or_false] at h
  omega
 unfold gq92 gq92.F
 have e : IntKind.wrap .u64 (32 - b) = 32 - b := by
  simp only [IntKind.wrap, IntKind.signed, IntKind.bits]
  simp
  omega
 rw [e, grd_of (gSh_t h0.1), grd_of (gSh_t (by omega))]
 rfl
theorem rot_i (x b : Int) (h : b ∈ Turns) : gq107 x b = some (rot x b) := by
 unfold gq107 gq107.F gq115 gq115.F
 have e : iAnd .u64 (IntKind.wrap .u64 (IntKind.wrap .i64 (0 - b))) 31 = 32 - b ∧ IntKind.wrap .u64 (32 - (32 - b)) = b ∧ 0 ≤ b ∧ b ≤ 32 := by
  simp only [Turns, List.mem_cons, List.mem_nil_iff, or_false] at h
  rcases h with rfl | rfl | rfl | rfl | rfl | rfl | rfl | rfl | rfl | rfl <;> exact ⟨by decide, by decide, by decide, by decide⟩
 rw [e.1, e.2.1, grd_of (gSh_t (by omega)), grd_of (gSh_t e.2.2.1), bs, or32_comm]
 rfl
def itF {S : Type} (step : Nat → S → S) : Nat → Nat → S → S
 | _, 0, s => s
 | i, m + 1, s => itF step (i + 1) m (step i s)
theorem it_loop {R S : Type} {L : Nat → Int → S → Option R} {N : Nat} {step : Nat → S → S} {fin : S → Option R} (Inv : S → Prop)
  (hs : ∀ n i s, i < N → Inv s → L (n + 1) (i : Int) s = L n ((i + 1 : Nat) : Int) (step i s) ∧ Inv (step i s)) (h0 : ∀ n s, Inv s → L (n + 1) (N : Int) s = fin s) :
  ∀ (m n i : Nat) (s : S), i + m = N → m < n → Inv s → L n i s = fin (itF step i m s) ∧ Inv (itF step i m s)
 | 0, n + 1, i, s, e, _, hi => by
  have : i = N := by omega
  subst this
  exact ⟨h0 n s hi, hi⟩
 | m + 1, n + 1, i, s, e, hn, hi => by
  obtain ⟨h1, h2⟩ := hs n i s (by omega) hi
  rw [h1]
  exact it_loop Inv hs h0 m n (i + 1) _ (by omega) (by omega) h2
theorem itF_congr {S : Type} {step step' : Nat → S → S} (Inv : S → Prop) : ∀ (m i : Nat) (s : S), (∀ j s, i ≤ j → j < i + m → Inv s → step j s = step' j s ∧ Inv (step j s)) → Inv s → itF step i m s = itF step' i m s ∧ Inv (itF step i m s)
 | 0, i, s, h, hi => ⟨rfl, hi⟩
 | m + 1, i, s, h, hi => by
  obtain ⟨h1, h2⟩ := h i s (Nat.le_refl _) (by omega) hi
  have := itF_congr Inv m (i + 1) (step i s) (fun j s hj hj' hs => h j s (by omega) (by omega) hs) h2
  refine ⟨?_, this.2⟩
  show itF step (i + 1) m (step i s) = itF step' (i + 1) m (step' i s)
  rw [this.1, h1]
theorem itF_add {S : Type} (step : Nat → S → S) : ∀ (m k i : Nat) (s : S), itF step i (m + k) s = itF step (i + m) k (itF step i m s)
 | 0, k, i, s => by rw [Nat.zero_add]; rfl
 | m + 1, k, i, s => by
  rw [show m + 1 + k = (m + k) + 1 by omega, show i + (m + 1) = (i + 1) + m by omega]
  exact itF_add step m k (i + 1) (step i s)
abbrev k32 : Kd := .int .u32
def wB (b : List Int) (i : Nat) : Int :=
 iOr .u32 (iOr .u32 (iOr .u32 (iShl .u32 (IntKind.wrap .u32 (b.getD (4 * i) 0)) 24) (iShl .u32 (IntKind.wrap .u32 (b.getD (4 * i + 1) 0)) 16)) (iShl .u32 (IntKind.wrap .u32 (b.getD (4 * i + 2) 0)) 8)) (IntKind.wrap .u32 (b.getD (4 * i + 3) 0))
def wX (w : List Int) (i : Nat) : Int :=
 IntKind.wrap .u32 ((IntKind.wrap .u32 ((IntKind.wrap .u32 ((rdE k32 w (i - 16)) + (iXor .u32 (iXor .u32 (rot (rdE k32 w (i - 15)) 7) (rot (rdE k32 w (i - 15)) 18)) (iShr .u32 (rdE k32 w (i - 15)) 3)))) + (rdE k32 w (i - 7)))) + (iXor .u32 (iXor .u32 (rot (rdE k32 w (i - 2)) 17) (rot (rdE k32 w (i - 2)) 19)) (iShr .u32 (rdE k32 w (i - 2)) 10)))
def stA (b : List Int) (i : Nat) (w : List Int) : List Int := setE k32 w i (wB b i)
def stX (i : Nat) (w : List Int) : List Int := setE k32 w i (wX w i)
def stW (b : List Int) (i : Nat) (w : List Int) : List Int := if i < 16 then stA b i w else stX i w
def wsOf (b : List Int) : List Int := itF stX 16 48 (itF (stA b) 0 16 (List.replicate 64 0))
theorem stA_len {b : List Int} {i : Nat} {w : List Int} (h : w.length = 64) : (stA b i w).length = 64 := by simp [stA, setE, h]
theorem stX_len {i : Nat} {w : List Int} (h : w.length = 64) : (stX i w).length = 64 := by simp [stX, setE, h]
theorem wsOf_eq (b : List Int) : itF (stW b) 0 64 (List.replicate 64 0) = wsOf b ∧ (wsOf b).length = 64 := by
 have h1 := itF_congr (step := stW b) (step' := stA b) (fun w => w.length = 64) 16 0 (List.replicate 64 0) (fun j s _ hj hs => by
  rw [stW, if_pos (by omega)]
  exact ⟨rfl, stA_len hs⟩) (by simp)
 have h2 := itF_congr (step := stW b) (step' := stX) (fun w => w.length = 64) 48 16 _ (fun j s hj _ hs => by
  rw [stW, if_neg (by omega)]
  exact ⟨rfl, stX_len hs⟩) h1.2
 have h3 := itF_add (stW b) 16 48 0 (List.replicate 64 0)
 rw [show 64 = 16 + 48 from rfl, h3]
 rw [show (0 : Nat) + 16 = 16 from rfl]
 rw [h2.1, h1.1] at *
 exact ⟨rfl, h2.2⟩
theorem t7 : (7 : Int) ∈ Turns := by decide
theorem t18 : (18 : Int) ∈ Turns := by decide
theorem t17 : (17 : Int) ∈ Turns := by decide
theorem t19 : (19 : Int) ∈ Turns := by decide
theorem t6 : (6 : Int) ∈ Turns := by decide
theorem t11 : (11 : Int) ∈ Turns := by decide
theorem t25 : (25 : Int) ∈ Turns := by decide
theorem t2 : (2 : Int) ∈ Turns := by decide
theorem t13 : (13 : Int) ∈ Turns := by decide
theorem t22 : (22 : Int) ∈ Turns := by decide
theorem gSh_l {x : Int} (h : 0 ≤ x) {R : Type} (r : Option R) : grd (gSh x) r = r := grd_of (gSh_t h) r
theorem wordsOf_eq (b : List Int) (hb : IsBytes b) (hl : b.length = 64) : gq106 (strL b) = some (wsOf b) := by
 unfold gq106 gq106.F
 have key := it_loop (L := fun n i w => gq106.l1 (fun l w => some w) n (strL b) i (List.replicate 64 (0 : Int)) w) (N := 64) (step := stW b) (fin := fun w => some w) (fun w => w.length = 64) ?_ ?_ 64 fuel 0 (List.replicate 64 0) (by omega) (by rw [fuel_eq]; omega) (by simp)
 ·rw [wsOf_eq b |>.1] at key
  exact key.1
 ·intro n i w hi hw
  have hsz : (strL b).size = 64 := by rw [strL_size, hl]
  simp only [gq106.l1]
  rw [decide_t (by omega), ct]
  by_cases h16 : i < 16
  ·have e4 : IntKind.wrap .i64 (4 * (i : Int)) = ((4 * i : Nat) : Int) := by rw [wr (by omega) (by omega)]; omega
   have e5 : IntKind.wrap .i64 (((4 * i : Nat) : Int) + 1) = ((4 * i + 1 : Nat) : Int) := by rw [wr (by omega) (by omega)]; omega
   have e6 : IntKind.wrap .i64 (((4 * i : Nat) : Int) + 2) = ((4 * i + 2 : Nat) : Int) := by rw [wr (by omega) (by omega)]; omega
   have e7 : IntKind.wrap .i64 (((4 * i : Nat) : Int) + 3) = ((4 * i + 3 : Nat) : Int) := by rw [wr (by omega) (by omega)]; omega
   rw [decide_t (by omega), ct, e4, e5, e6, e7, hsz, grd_of (gIx_t (by omega) (by omega)), gSh_l (by decide), grd_of (gIx_t (by omega) (by omega)), gSh_l (by decide), grd_of (gIx_t (by omega) (by omega)), gSh_l (by decide), grd_of (gIx_t (by omega) (by omega)), grd_of (gIx_t (by omega) (by omega))]
   rw [byteAt_strL hb (by omega) (by omega), byteAt_strL hb (by omega) (by omega), byteAt_strL hb (by omega) (by omega), byteAt_strL hb (by omega) (by omega), wr (x := (i : Int) + 1) (by omega) (by omega), show ((i : Int) + 1) = ((i + 1 : Nat) : Int) by omega]
   simp only [Int.toNat_natCast]
   rw [stW, if_pos h16]
   exact ⟨rfl, stA_len hw⟩
  ·rw [decide_f (by omega), cf, wr (x := (i : Int) - 15) (by omega) (by omega), wr (x := (i : Int) - 2) (by omega) (by omega), wr (x := (i : Int) - 16) (by omega) (by omega), wr (x := (i : Int) - 7) (by omega) (by omega)]
   rw [show ((i : Int) - 15).toNat = i - 15 by omega, show ((i : Int) - 2).toNat = i - 2 by omega, show ((i : Int) - 16).toNat = i - 16 by omega, show ((i : Int) - 7).toNat = i - 7 by omega]
   rw [grd_of (gIx_t (by omega) (by omega)), grd_of (gIx_t (by omega) (by omega)), rot_i _ _ t7, bs, rot_i _ _ t18, bs, gSh_l (by decide), rot_i _ _ t17, bs, rot_i _ _ t19, bs, gSh_l (by decide), grd_of (gIx_t (by omega) (by omega)), grd_of (gIx_t (by omega) (by omega)), grd_of (gIx_t (by omega) (by omega)), wr (x := (i : Int) + 1) (by omega) (by omega), show ((i : Int) + 1) = ((i + 1 : Nat) : Int) by omega, Int.toNat_natCast]
   rw [stW, if_neg h16]
   exact ⟨rfl, stX_len hw⟩
 ·intro n w hw
  simp only [gq106.l1]
  rw [decide_f (by omega), cf]
end Go.Proofs.YtooijdhcaghdlaaA
namespace Go.Proofs.YtooijdhcaghdlaaA
open Go
set_option linter.unusedVariables false
set_option linter.unusedSimpArgs false
def rP (v k w : List Int) (i : Nat) : Int :=
 IntKind.wrap .u32 ((IntKind.wrap .u32 ((IntKind.wrap .u32 ((IntKind.wrap .u32 ((rdE k32 v 7) + (iXor .u32 (iXor .u32 (rot (rdE k32 v 4) 6) (rot (rdE k32 v 4) 11)) (rot (rdE k32 v 4) 25)))) + (iOr .u32 (iAnd .u32 (rdE k32 v 4) (rdE k32 v 5)) (iAnd .u32 (iXor .u32 (IntKind.max .u32) (rdE k32 v 4)) (rdE k32 v 6))))) + (rdE k32 k i))) + (rdE k32 w i))
def rQ (v : List Int) : Int :=
 IntKind.wrap .u32 ((iXor .u32 (iXor .u32 (rot (rdE k32 v 0) 2) (rot (rdE k32 v 0) 13)) (rot (rdE k32 v 0) 22)) + (iOr .u32 (iOr .u32 (iAnd .u32 (rdE k32 v 0) (rdE k32 v 1)) (iAnd .u32 (rdE k32 v 0) (rdE k32 v 2))) (iAnd .u32 (rdE k32 v 1) (rdE k32 v 2))))
def stV (k w : List Int) (i : Nat) (v : List Int) : List Int :=
 [IntKind.wrap .u32 (rP v k w i + rQ v), rdE k32 v 0, rdE k32 v 1, rdE k32 v 2, IntKind.wrap .u32 (rdE k32 v 3 + rP v k w i), rdE k32 v 4, rdE k32 v 5, rdE k32 v 6]
def rounds (h k b : List Int) : List Int := itF (stV k (wsOf b)) 0 64 h
def addW (h v : List Int) : List Int :=
 [IntKind.wrap .u32 (rdE k32 h 0 + rdE k32 v 0), IntKind.wrap .u32 (rdE k32 h 1 + rdE k32 v 1), IntKind.wrap .u32 (rdE k32 h 2 + rdE k32 v 2), IntKind.wrap .u32 (rdE k32 h 3 + rdE k32 v 3), IntKind.wrap .u32 (rdE k32 h 4 + rdE k32 v 4), IntKind.wrap .u32 (rdE k32 h 5 + rdE k32 v 5), IntKind.wrap .u32 (rdE k32 h 6 + rdE k32 v 6), IntKind.wrap .u32 (rdE k32 h 7 + rdE k32 v 7)]
def blockF (h k b : List Int) : List Int := addW h (rounds h k b)
theorem eight {l : List Int} (h : l.length = 8) : ∃ a b c d e f g i, l = [a, b, c, d, e, f, g, i] := by
 match l, h with
 | [a, b, c, d, e, f, g, i], _ => exact ⟨_, _, _, _, _, _, _, _, rfl⟩
theorem fuel9 : ∃ q, fuel = q + 9 := ⟨fuel - 9, by rw [fuel_eq]⟩
theorem rounds_len {h k b : List Int} (hh : h.length = 8) : (rounds h k b).length = 8 := (itF_congr (step := stV k (wsOf b)) (step' := stV k (wsOf b)) (fun v => v.length = 8) 64 0 h (fun _ _ _ _ _ => ⟨rfl, rfl⟩) hh).2
theorem blockHash_eq (h k b : List Int) (hb : IsBytes b) (hh : h.length = 8) (hk : k.length = 64) (hl : b.length = 64) : gq90 h k (strL b) = some (blockF h k b) := by
 rw [gq90_eq]
 unfold gq90.F
 rw [wordsOf_eq b hb hl, bs]
 have hw := (wsOf_eq b).2
 have key := it_loop (L := fun n i v => gq90.l1 (fun words1 l v => gq90.l2 (fun l1 v1 => some v1) fuel (0 : Int) words1 l v) n i h k (List.replicate 8 (0 : Int)) v (wsOf b)) (N := 64) (step := stV k (wsOf b)) (fin := fun v => gq90.l2 (fun l1 v1 => some v1) fuel (0 : Int) h (List.replicate 8 (0 : Int)) v) (fun v => v.length = 8) ?_ ?_ 64 fuel 0 h (by omega) (by rw [fuel_eq]; omega) hh
 ·obtain ⟨h1, h2⟩ := key
  refine h1.trans ?_
  show gq90.l2 (fun l1 v1 => some v1) fuel (0 : Int) h (List.replicate 8 (0 : Int)) (rounds h k b) = some (addW h (rounds h k b))
  obtain ⟨a0, a1, a2, a3, a4, a5, a6, a7, hv⟩ := eight (rounds_len (k := k) (b := b) hh)
  obtain ⟨b0, b1, b2, b3, b4, b5, b6, b7, rfl⟩ := eight hh
  rw [hv]
  obtain ⟨q, hq⟩ := fuel9
  rw [hq]
  simp only [gq90.l2]
  have c : ∀ a b : Int, IntKind.wrap .u32 (a + b) = IntKind.wrap .u32 (b + a) := fun a b => by rw [Int.add_comm]
  show some [IntKind.wrap .u32 (a0 + b0), IntKind.wrap .u32 (a1 + b1), IntKind.wrap .u32 (a2 + b2), IntKind.wrap .u32 (a3 + b3), IntKind.wrap .u32 (a4 + b4), IntKind.wrap .u32 (a5 + b5), IntKind.wrap .u32 (a6 + b6), IntKind.wrap .u32 (a7 + b7)] = some [IntKind.wrap .u32 (b0 + a0), IntKind.wrap .u32 (b1 + a1), IntKind.wrap .u32 (b2 + a2), IntKind.wrap .u32 (b3 + a3), IntKind.wrap .u32 (b4 + a4), IntKind.wrap .u32 (b5 + a5), IntKind.wrap .u32 (b6 + a6), IntKind.wrap .u32 (b7 + a7)]
  rw [c a0, c a1, c a2, c a3, c a4, c a5, c a6, c a7]
 ·intro n i v hi hv
  simp only [gq90.l1]
  rw [decide_t (by omega), ct]
  rw [grd_of (gIx_t (by omega) (by omega)), grd_of (gIx_t (by omega) (by omega)), grd_of (gIx_t (by omega) (by omega)), grd_of (gIx_t (by omega) (by omega)), grd_of (gIx_t (by omega) (by omega)), grd_of (gIx_t (by omega) (by omega)), grd_of (gIx_t (by omega) (by omega))]
  rw [rot_i _ _ t6, bs, rot_i _ _ t11, bs, rot_i _ _ t25, bs, grd_of (gIx_t (by omega) (by omega)), grd_of (gIx_t (by omega) (by omega)), rot_i _ _ t2, bs, rot_i _ _ t13, bs, rot_i _ _ t22, bs, grd_of (gIx_t (by omega) (by omega)), wr (x := (i : Int) + 1) (by omega) (by omega), show ((i : Int) + 1) = ((i + 1 : Nat) : Int) by omega, Int.toNat_natCast]
  exact ⟨rfl, rfl⟩
 ·intro n v hv
  simp only [gq90.l1]
  rw [decide_f (by omega), cf]
theorem block_s (h b k : List Int) (hb : IsBytes b) (hh : h.length = 8) (hk : k.length = 64) (hl : b.length = 64) : gq83 h b k = some (blockF h k b) := by
 rw [gq83_eq]
 unfold gq83.F
 rw [grd_of (gMk_t (by decide) (by decide) (by decide))]
 have l1 := fun (kke : List Int → List Int → List Int → Option (List Int)) => it_loop (L := fun n i w => gq83.l1 kke n b k i h w) (N := 16) (step := stA b) (fin := fun w => kke k h w) (fun w => w.length = 64) (by
  intro n i w hi hw
  have hw' : List.length (α := El k32) w = 64 := hw
  have e4 : IntKind.wrap .i64 (4 * (i : Int)) = ((4 * i : Nat) : Int) := by rw [wr (by omega) (by omega)]; omega
  have e5 : IntKind.wrap .i64 (((4 * i : Nat) : Int) + 1) = ((4 * i + 1 : Nat) : Int) := by rw [wr (by omega) (by omega)]; omega
  have e6 : IntKind.wrap .i64 (((4 * i : Nat) : Int) + 2) = ((4 * i + 2 : Nat) : Int) := by rw [wr (by omega) (by omega)]; omega
  have e7 : IntKind.wrap .i64 (((4 * i : Nat) : Int) + 3) = ((4 * i + 3 : Nat) : Int) := by rw [wr (by omega) (by omega)]; omega
  simp only [gq83.l1]
  rw [decide_t (by omega), ct, e4, e5, e6, e7, grd_of (gIx_t (by omega) (by omega)), gSh_l (by decide), grd_of (gIx_t (by omega) (by omega)), gSh_l (by decide), grd_of (gIx_t (by omega) (by omega)), gSh_l (by decide), grd_of (gIx_t (by omega) (by omega)), grd_of (gIx_t (by omega) (by omega)), wr (x := (i : Int) + 1) (by omega) (by omega), show ((i : Int) + 1) = ((i + 1 : Nat) : Int) by omega]
  simp only [Int.toNat_natCast]
  exact ⟨rfl, stA_len hw⟩) (by
  intro n w hw
  simp only [gq83.l1]
  rw [decide_f (by omega), cf]) 16 fuel 0 (List.replicate 64 0) (by omega) (by rw [fuel_eq]; omega) (by simp)
 have l2 := fun (kke : List Int → List Int → List Int → Option (List Int)) (w0 : List Int) (h0 : w0.length = 64) => it_loop (L := fun n j w => gq83.l2 kke n k (j + 16) h w) (N := 48) (step := fun j w => stX (j + 16) w) (fin := fun w => kke k h w) (fun w => w.length = 64) (by
  intro n j w hj hw
  have hw' : List.length (α := El k32) w = 64 := hw
  obtain ⟨i, hi⟩ : ∃ i, i = j + 16 := ⟨_, rfl⟩
  rw [show ((j : Int) + 16) = (i : Int) by omega, show (((j + 1 : Nat) : Int) + 16) = ((i + 1 : Nat) : Int) by omega, ← hi]
  simp only [gq83.l2]
  rw [decide_t (by omega), ct, wr (x := (i : Int) - 15) (by omega) (by omega), wr (x := (i : Int) - 2) (by omega) (by omega), wr (x := (i : Int) - 16) (by omega) (by omega), wr (x := (i : Int) - 7) (by omega) (by omega)]
  rw [show ((i : Int) - 15).toNat = i - 15 by omega, show ((i : Int) - 2).toNat = i - 2 by omega, show ((i : Int) - 16).toNat = i - 16 by omega, show ((i : Int) - 7).toNat = i - 7 by omega]
  rw [grd_of (gIx_t (by omega) (by omega)), grd_of (gIx_t (by omega) (by omega)), grd_of (gIx_t (by omega) (by omega)), rot_s _ _ t7, bs, rot_s _ _ t18, bs, gSh_l (by decide), grd_of (gIx_t (by omega) (by omega)), rot_s _ _ t17, bs, rot_s _ _ t19, bs, gSh_l (by decide), grd_of (gIx_t (by omega) (by omega)), wr (x := (i : Int) + 1) (by omega) (by omega), show ((i : Int) + 1) = ((i + 1 : Nat) : Int) by omega, Int.toNat_natCast]
  exact ⟨rfl, stX_len hw⟩) (by
  intro n w hw
  simp only [gq83.l2]
  rw [decide_f (by omega), cf]) 48 fuel 0 w0 (by omega) (by rw [fuel_eq]; omega) h0
 have l3 := fun (kke : List Int → List Int → Option (List Int)) (w : List Int) (hw : w.length = 64) => it_loop (L := fun n i v => gq83.l3 kke n k i h w v) (N := 64) (step := stV k w) (fin := fun v => kke h v) (fun v => v.length = 8) (by
  intro n i v hi hv
  have hw' : List.length (α := El k32) w = 64 := hw
  have hv' : List.length (α := El k32) v = 8 := hv
  have hk' : List.length (α := El k32) k = 64 := hk
  simp only [gq83.l3]
  rw [decide_t (by omega), ct]
  rw [grd_of (gIx_t (by omega) (by omega)), grd_of (gIx_t (by omega) (by omega)), grd_of (gIx_t (by omega) (by omega)), rot_s _ _ t6, bs, rot_s _ _ t11, bs, rot_s _ _ t25, bs]
  rw [grd_of (gIx_t (by omega) (by omega)), grd_of (gIx_t (by omega) (by omega)), grd_of (gIx_t (by omega) (by omega)), grd_of (gIx_t (by omega) (by omega)), rot_s _ _ t2, bs, rot_s _ _ t13, bs, rot_s _ _ t22, bs]
  repeat rw [grd_of (gIx_t (by omega) (by omega))]
  rw [wr (x := (i : Int) + 1) (by omega) (by omega), show ((i : Int) + 1) = ((i + 1 : Nat) : Int) by omega, Int.toNat_natCast]
  simp only [ch32, maj32]
  exact ⟨rfl, rfl⟩) (by
  intro n v hv
  simp only [gq83.l3]
  rw [decide_f (by omega), cf]) 64 fuel 0 h (by omega) (by rw [fuel_eq]; omega) hh
 have sh := fun (m i : Nat) (w : List Int) => show itF (fun j w => stX (j + 16) w) i m w = itF stX (i + 16) m w by
  induction m generalizing i w with
  | zero => rfl
  | succ m ih =>
   show itF (fun j w => stX (j + 16) w) (i + 1) m (stX (i + 16) w) = itF stX (i + 16 + 1) m (stX (i + 16) w)
   rw [ih, show i + 1 + 16 = i + 16 + 1 by omega]
 have hlen := (wsOf_eq b).2
 refine (l1 _).1.trans ?_
 have e2 := (l2 (fun k_2 h2 w1 => grd (gRm (((List.length ([] : List Int)) + (List.length h2)) * 4)) <| gq83.l3 (fun h3 v => gq83.l4 (fun h4 => some h4) fuel (0 : Int) h3 v) fuel k_2 (0 : Int) h2 w1 (([] : List Int) ++ h2)) _ (l1 (fun _ _ w => some w)).2).1
 rw [sh] at e2
 refine e2.trans ?_
 show grd (gRm (((List.length ([] : List Int)) + (List.length h)) * 4)) (gq83.l3 (fun h3 v => gq83.l4 (fun h4 => some h4) fuel (0 : Int) h3 v) fuel k (0 : Int) h (wsOf b) (([] : List Int) ++ h)) = _
 rw [grd_of (gRm_t (by simp; omega)), List.nil_append]
 refine (l3 _ (wsOf b) hlen).1.trans ?_
 show gq83.l4 (fun h4 => some h4) fuel (0 : Int) h (rounds h k b) = some (addW h (rounds h k b))
 obtain ⟨a0, a1, a2, a3, a4, a5, a6, a7, hv⟩ := eight (rounds_len (k := k) (b := b) hh)
 obtain ⟨b0, b1, b2, b3, b4, b5, b6, b7, rfl⟩ := eight hh
 rw [hv]
 obtain ⟨q, hq⟩ := fuel9
 rw [hq]
 rfl
theorem blockF_len (h k b : List Int) : (blockF h k b).length = 8 := rfl
def IsWords (l : List Int) : Prop := ∀ x ∈ l, 0 ≤ x ∧ x < 4294967296
theorem blockF_words (h k b : List Int) : IsWords (blockF h k b) := by
 intro x hx
 have : ∃ y, x = IntKind.wrap .u32 y := by
  unfold blockF addW at hx
  simp only [List.mem_cons, List.mem_nil_iff, or_false] at hx
  rcases hx with rfl | rfl | rfl | rfl | rfl | rfl | rfl | rfl <;> exact ⟨_, rfl⟩
 obtain ⟨y, rfl⟩ := this
 rw [wr32m]
 omega
end Go.Proofs.YtooijdhcaghdlaaA
namespace Go.Proofs.YtooijdhcaghdlaaA
open Go
set_option linter.unusedVariables false
set_option linter.unusedSimpArgs false
end Go.Proofs.YtooijdhcaghdlaaA
namespace Go.Proofs.YtooijdhcaghdlaaA
open Go
set_option linter.unusedVariables false
set_option linter.unusedSimpArgs false
theorem find_loop {k : Kd} {R : Type} {L : Nat → List (El k) → Int → Int → Option R} {f : El k → Option (Bool × Unit)} {kke : Option R} {kkr : Int → Option R}
  (hL : ∀ n s i j, L (n + 1) s i j = cond (decide (j < i)) (grd (gIx j (List.length s)) ((f (rdE k s (Int.toNat j))).bind fun r => cond r.1 (kkr j) (L n s i (IntKind.wrap .i64 (j + 1))))) kke)
  {q : El k → Bool} {l : List (El k)} (hl : l.length ≤ 9223372036854775806) (hf : ∀ x ∈ l, f x = some (q x, ())) :
  ∀ (m n j : Nat), j + m = l.length → m < n → L n l l.length j = match (l.drop j).findIdx? q with | none => kke | some d => kkr ((j + d : Nat) : Int)
 | 0, n + 1, j, e, _ => by
  rw [hL, decide_f (by omega : ¬ (j : Int) < l.length), cond_false, List.drop_of_length_le (by omega)]
  rfl
 | m + 1, n + 1, j, e, h => by
  have hj : j < l.length := by omega
  rw [hL, decide_t (by omega : (j : Int) < l.length), cond_true, grd_of (gIx_t (by omega) (by omega)), Int.toNat_natCast, rdE_at hj, hf _ (List.getElem_mem hj), Option.bind_some, drop_cons hj, List.findIdx?_cons]
  cases hq : q l[j] with
  | true => simp
  | false =>
   simp only [cond_false, Bool.false_eq_true, if_false]
   rw [wr (by omega) (by omega), show ((j : Int) + 1) = ((j + 1 : Nat) : Int) by omega, find_loop hL hl hf m n (j + 1) (by omega) (by omega)]
   cases (l.drop (j + 1)).findIdx? q with
   | none => rfl
   | some d => simp only [Option.map_some]; congr 1; omega
theorem findIdx_any {α : Type} (l : List α) (q : α → Bool) : (l.findIdx? q).isSome = l.any q := by
 induction l with
 | nil => rfl
 | cons x l ih =>
  rw [List.findIdx?_cons, List.any_cons]
  cases q x with
  | true => simp
  | false => simp [ih]
end Go.Proofs.YtooijdhcaghdlaaA
namespace Go.Proofs.YtooijdhcaghdlaaA
open Go
set_option linter.unusedVariables false
set_option linter.unusedSimpArgs false
end Go.Proofs.YtooijdhcaghdlaaA
namespace Go.Proofs.YtooijdhcaghdlaaA
open Go
set_option linter.unusedVariables false
set_option linter.unusedSimpArgs false
def inShort (n : Int) : Bool := decide (0 ≤ n) && decide (n ≤ 65535)
def isKeyB (s : ByteArray) : Bool := decide (1 ≤ s.size) && decide (s.size ≤ 24)
theorem isShort_eq (n : Int) : gq51 n = some (inShort n) := by
 unfold gq51 gq51.F
 rw [within_eq]
 rfl
theorem isKey_eq (s : ByteArray) : gq108 s = some (isKeyB s) := by
 unfold gq108 gq108.F isKeyB
 rw [within_eq, Option.bind_some]
 congr 2 <;> (rw [Bool.eq_iff_iff, decide_eq_true_iff, decide_eq_true_iff]; omega)
theorem l02Key_eq (s : ByteArray) : gq79 s = some (isKeyB s) := by
 unfold gq79 gq79.F isKeyB
 by_cases h : 1 ≤ s.size
 ·rw [decide_t (by omega : (s.size : Int) ≥ 1), cond_true, decide_t h, Bool.true_and]
  congr 1
  rw [Bool.eq_iff_iff, decide_eq_true_iff, decide_eq_true_iff]; omega
 ·rw [decide_f (by omega : ¬ (s.size : Int) ≥ 1), cond_false, decide_f h, Bool.false_and]
theorem isValue_eq (s : ByteArray) : gq72 s = some (decide (s.size ≤ 60)) := by
 unfold gq72 gq72.F
 congr 1
 rw [Bool.eq_iff_iff, decide_eq_true_iff, decide_eq_true_iff]; omega
theorem beL4 (n : Int) : beL n 4 = [n / 16777216 % 256, n / 65536 % 256, n / 256 % 256, n % 256] := by
 show [n / 256 / 256 / 256 % 256, n / 256 / 256 % 256, n / 256 % 256, n % 256] = _
 rw [show n / 256 / 256 / 256 = n / 16777216 by omega, show n / 256 / 256 = n / 65536 by omega]
theorem number4 (x : Int) : gq87 x 4 = some (strL (beL x 4)) := number_eq x 4 (by omega)
end Go.Proofs.YtooijdhcaghdlaaA
namespace Go.Proofs.YtooijdhcaghdlaaA
open Go
set_option linter.unusedVariables false
set_option linter.unusedSimpArgs false
def kK : List Int := (gq82).getD []
theorem consts_eq : gq82 = some kK := rfl
theorem roundWords_eq : gq89 = some kK := by rw [gq89_eq]; rfl
def kH : List Int := [1779033703, 3144134277, 1013904242, 2773480762, 1359893119, 2600822924, 528734635, 1541459225]
theorem hashWords_eq : gq88 = some kH := by rw [gq88_eq]; rfl
theorem kK_len : kK.length = 64 := by decide
theorem kH_len : kH.length = 8 := by decide
theorem kH_words : IsWords kH := by
 intro x hx
 simp only [kH, List.mem_cons, List.mem_nil_iff, or_false] at hx
 omega
theorem it_loopI {R S : Type} {L : Nat → Int → S → Option R} {N : Nat} {step : Nat → S → S} {fin : S → Option R} (Inv : Nat → S → Prop)
  (hs : ∀ n i s, i < N → Inv i s → L (n + 1) (i : Int) s = L n ((i + 1 : Nat) : Int) (step i s) ∧ Inv (i + 1) (step i s)) (h0 : ∀ n s, Inv N s → L (n + 1) (N : Int) s = fin s) :
  ∀ (m n i : Nat) (s : S), i + m = N → m < n → Inv i s → L n i s = fin (itF step i m s) ∧ Inv N (itF step i m s)
 | 0, n + 1, i, s, e, _, hi => by
  have : i = N := by omega
  subst this
  exact ⟨h0 n s hi, hi⟩
 | m + 1, n + 1, i, s, e, hn, hi => by
  obtain ⟨h1, h2⟩ := hs n i s (by omega) hi
  rw [h1]
  exact it_loopI Inv hs h0 m n (i + 1) _ (by omega) (by omega) h2
def padZ (n : Nat) : Nat := (119 - n % 64) % 64
def padded (l : List Int) : List Int := ((l ++ [128]) ++ List.replicate (padZ l.length) 0) ++ beL (8 * (l.length : Int)) 8
theorem padded_len (l : List Int) : (padded l).length = 64 * ((l.length + 72) / 64) := by
 simp only [padded, List.length_append, List.length_singleton, List.length_replicate, beL_length, padZ]
 omega
theorem padded_bytes {l : List Int} (h : IsBytes l) : IsBytes (padded l) := by
 refine ((h.append (IsBytes.cons (by decide) (by decide) IsBytes.nil)).append fun y hy => ?_).append (beL_bytes _ _)
 rw [List.eq_of_mem_replicate hy]
 decide
def stH (all : List Int) (j : Nat) (h : List Int) : List Int := blockF h kK ((all.drop (64 * j)).take 64)
def stO (h : List Int) (i : Nat) (out : List Int) : List Int := out ++ beL (rdE k32 h i) 4
def shaO (h : List Int) : List Int := itF (stO h) 0 8 []
def sha (l : List Int) : List Int := shaO (itF (stH (padded l)) 0 ((l.length + 72) / 64) kH)
theorem shaO_eq (h : List Int) : shaO h = beL (rdE k32 h 0) 4 ++ beL (rdE k32 h 1) 4 ++ beL (rdE k32 h 2) 4 ++ beL (rdE k32 h 3) 4 ++ beL (rdE k32 h 4) 4 ++ beL (rdE k32 h 5) 4 ++ beL (rdE k32 h 6) 4 ++ beL (rdE k32 h 7) 4 := by
 simp only [shaO, itF, stO, List.nil_append]
theorem sha_len (l : List Int) : (sha l).length = 32 := by
 rw [sha, shaO_eq]
 simp only [List.length_append, beL_length]
theorem sha_bytes (l : List Int) : IsBytes (sha l) := by
 rw [sha, shaO_eq]
 exact (((((((beL_bytes _ _).append (beL_bytes _ _)).append (beL_bytes _ _)).append (beL_bytes _ _)).append (beL_bytes _ _)).append (beL_bytes _ _)).append (beL_bytes _ _)).append (beL_bytes _ _)
def HOk (h : List Int) : Prop := h.length = 8 ∧ IsWords h
theorem sub_block (all : List Int) (j : Nat) : sub all (64 * (j : Int)) (64 * (j : Int) + 64) = (all.drop (64 * j)).take 64 := by
 unfold sub
 rw [show (64 * (j : Int) + 64).toNat = 64 * j + 64 by omega, show (64 * (j : Int)).toNat = 64 * j by omega, List.drop_take, show 64 * j + 64 - 64 * j = 64 by omega]
theorem repeat_eq (z : Nat) (hz : z ≤ 100) : gq86 (⟨#[0]⟩ : ByteArray) (z : Int) = some (strL (List.replicate z 0)) := by
 rw [gq86_eq]
 unfold gq86.F
 rw [grd_of (by
  rw [gRep_eq]
  have : ByteArray.size (⟨#[0]⟩ : ByteArray) = 1 := rfl
  exact decide_eq_true ⟨by omega, by omega, by rw [this]; omega⟩), repS_eq, Int.toNat_natCast]
 congr 1
 apply ba_ext
 rw [strL_list]
 show (Lib.repeatL [(0 : UInt8)] z).toArray.toList = _
 rw [List.map_replicate]
 clear hz
 show Lib.repeatL [(0 : UInt8)] z = List.replicate z (UInt8.ofNat (0 : Int).toNat)
 induction z with
 | zero => rfl
 | succ z ih =>
  rw [List.replicate_succ, ← ih]
  rfl
theorem byte4 {x : Int} (h0 : 0 ≤ x) (h1 : x < 4294967296) : [IntKind.wrap .u8 (iShr .u32 x 24), IntKind.wrap .u8 (iShr .u32 x 16), IntKind.wrap .u8 (iShr .u32 x 8), IntKind.wrap .u8 x] = beL x 4 := by
 have e : ∀ n : Int, 0 ≤ n → n ≤ 32 → iShr .u32 x n = x / 2 ^ n.toNat := fun n hn hn' => by
  unfold iShr
  rw [show min n.toNat (IntKind.bits .u32) = n.toNat by simp [IntKind.bits]; omega]
  rw [Int.fdiv_eq_ediv_of_nonneg]
  exact Int.pow_nonneg (by decide)
 rw [e 24 (by decide) (by decide), e 16 (by decide) (by decide), e 8 (by decide) (by decide), beL4]
 simp only [wr8m]
 rfl
theorem hash_i (l : List Int) (hb : IsBytes l) (hl : l.length ≤ 1000000000000) : i_hash (strL l) = some (strL (sha l)) := by
 rw [i_hash_eq]
 unfold i_hash.F
 have h128 : (⟨#[128]⟩ : ByteArray) = strL [128] := rfl
 have ez : Int.tmod (IntKind.wrap .i64 ((119 : Int) - Int.tmod (l.length : Int) 64)) 64 = (padZ l.length : Nat) := by
  rw [tmod_pos (x := (l.length : Int)) (by omega), wr (by omega) (by omega), tmod_pos (by omega)]
  unfold padZ
  omega
 rw [h128, grd_of (gCat_t (by rw [strL_size, strL_size]; simp; omega)), grd_of (gNz_t (by decide)), grd_of (gNz_t (by decide)), strL_size, ez, repeat_eq _ (by unfold padZ; omega), bs, strL_append]
 rw [grd_of (gCat_t (by rw [strL_size, strL_size]; simp [padZ]; omega)), wr (by omega) (by omega)]
 have hn := number_eq (8 * (l.length : Int)) 8 (by decide)
 rw [show (((8 : Nat) : Int)) = 8 from rfl] at hn
 rw [hn, bs, strL_append, grd_of (gCat_t (by rw [strL_size, strL_size]; simp [padZ, beL_length]; omega)), strL_append, hashWords_eq, bs, roundWords_eq, bs]
 show i_hash.l1 (fun words => i_hash.l2 (fun out => some out) fuel ByteArray.empty words (0 : Int)) fuel (strL (padded l)) (0 : Int) kH kK = _
 have hpl := padded_len l
 have hpb := padded_bytes hb
 have key := it_loop (L := fun n j h => i_hash.l1 (fun words => i_hash.l2 (fun out => some out) fuel ByteArray.empty words (0 : Int)) n (strL (padded l)) (64 * j) h kK) (N := (l.length + 72) / 64) (step := stH (padded l)) (fin := fun h => i_hash.l2 (fun out => some out) fuel ByteArray.empty h (0 : Int)) HOk ?_ ?_ ((l.length + 72) / 64) fuel 0 kH (by omega) (by rw [fuel_eq]; omega) ⟨kH_len, kH_words⟩
 ·obtain ⟨h1, h2⟩ := key
  refine h1.trans ?_
  rw [sha]
  obtain ⟨hh, hhd⟩ : ∃ hh, hh = itF (stH (padded l)) 0 ((l.length + 72) / 64) kH := ⟨_, rfl⟩
  rw [← hhd] at h2 ⊢
  have k2 := it_loopI (L := fun n i out => i_hash.l2 (fun out => some out) n (strL out) hh i) (N := 8) (step := stO hh) (fin := fun out => some (strL out)) (fun i out => out.length = 4 * i) ?_ ?_ 8 fuel 0 [] (by omega) (by rw [fuel_eq]; omega) (by simp)
  ·exact k2.1
  ·intro n i out hi ho
   have hw := h2.2 _ (List.getElem_mem (show i < hh.length by rw [h2.1]; exact hi))
   simp only [i_hash.l2]
   rw [decide_t (by omega), ct, grd_of (gIx_t (by omega) (by omega)), Int.toNat_natCast, rdE_at (k := k32) (show i < hh.length by rw [h2.1]; exact hi), wr (by omega) (by omega), number4, bs, grd_of (gCat_t (by rw [strL_size, strL_size, beL_length]; omega)), strL_append, wr (by omega) (by omega), show ((i : Int) + 1) = ((i + 1 : Nat) : Int) by omega]
   refine ⟨?_, ?_⟩
   ·rw [stO, rdE_at (k := k32) (show i < hh.length by rw [h2.1]; exact hi)]
   ·simp only [stO, List.length_append, beL_length]
    omega
  ·intro n out ho
   simp only [i_hash.l2]
   rw [decide_f (by omega), cf]
 ·intro n j h hj hh
  have hj' : 64 * j + 64 ≤ (padded l).length := by rw [hpl]; omega
  have hpl' : (padded l).length ≤ 1000000000100 := by rw [hpl]; omega
  simp only [i_hash.l1]
  rw [strL_size, decide_t (by omega), ct, wr (by omega) (by omega), grd_of (gSl_t (by omega) (by omega) (by omega)), cut_strL, sub_block, blockHash_eq h kK _ ((hpb.drop _).take _) hh.1 kK_len (by simp; omega), bs, show (64 * (j : Int) + 64) = 64 * ((j + 1 : Nat) : Int) by omega]
  exact ⟨rfl, blockF_len _ _ _, blockF_words _ _ _⟩
 ·intro n h hh
  simp only [i_hash.l1]
  rw [strL_size, hpl, decide_f (by omega), cf]
theorem pad_s (kke : List Int → List Int → List Int → Option ByteArray) (b h : List Int) : ∀ (m n : Nat) (acc : List Int), m < n → m < 64 → (acc.length + m) % 64 = 56 → acc.length + m ≤ 1000000001000 → gq63.l1 kke n b h acc = kke b h (acc ++ List.replicate m 0)
 | 0, n + 1, acc, _, _, e, hl => by
  simp only [gq63.l1]
  rw [grd_of (gNz_t (by decide)), tmod_pos (by omega), show ((((acc.length : Nat) : Int) % 64) != 56) = false from bne_eq_false_iff_eq.2 (by omega), cf]
  simp
 | m + 1, n + 1, acc, hn, hm, e, hl => by
  simp only [gq63.l1]
  rw [grd_of (gNz_t (by decide)), tmod_pos (by omega), show (((acc.length : Int) % 64) != 56) = true by simp; omega, ct, grd_of (gRm_t (by simp; omega))]
  rw [pad_s kke b h m n (acc ++ [0]) (by omega) (by omega) (by simp; omega) (by simp; omega), List.append_assoc]
  rfl
theorem len8 (x : Int) (acc : List Int) : itF (fun (j : Nat) (acc : List Int) => acc ++ [x / 2 ^ (8 * (7 - j)) % 256]) 0 8 acc = acc ++ beL x 8 := by
 simp only [itF, List.append_assoc]
 congr 1
 show [x / 2 ^ 56 % 256, x / 2 ^ 48 % 256, x / 2 ^ 40 % 256, x / 2 ^ 32 % 256, x / 2 ^ 24 % 256, x / 2 ^ 16 % 256, x / 2 ^ 8 % 256, x / 2 ^ 0 % 256] = [x / 256 / 256 / 256 / 256 / 256 / 256 / 256 % 256, x / 256 / 256 / 256 / 256 / 256 / 256 % 256, x / 256 / 256 / 256 / 256 / 256 % 256, x / 256 / 256 / 256 / 256 % 256, x / 256 / 256 / 256 % 256, x / 256 / 256 % 256, x / 256 % 256, x % 256]
 have e : ∀ k : Nat, (2 : Int) ^ k = 2 ^ k := fun _ => rfl
 rw [show (2 : Int) ^ 56 = 72057594037927936 by decide, show (2 : Int) ^ 48 = 281474976710656 by decide, show (2 : Int) ^ 40 = 1099511627776 by decide, show (2 : Int) ^ 32 = 4294967296 by decide, show (2 : Int) ^ 24 = 16777216 by decide, show (2 : Int) ^ 16 = 65536 by decide, show (2 : Int) ^ 8 = 256 by decide, show (2 : Int) ^ 0 = 1 by decide]
 simp only [Int.ediv_ediv_of_nonneg (show (0 : Int) ≤ 256 by decide), Int.ediv_one]
 simp
 omega
theorem hash_s (l : List Int) (hb : IsBytes l) (hl : l.length ≤ 1000000000000) : gq63 l = some (strL (sha l)) := by
 rw [gq63_eq]
 unfold gq63.F
 rw [grd_of (gRm_t (by simp; omega)), grd_of (gRm_t (by simp; omega)), List.nil_append]
 rw [pad_s _ l _ (padZ l.length) fuel (l ++ [128]) (by rw [fuel_eq]; unfold padZ; omega) (by unfold padZ; omega) (by simp [padZ]; omega) (by simp [padZ]; omega)]
 have hpl := padded_len l
 have hpb := padded_bytes hb
 have e8 : IntKind.wrap .i64 (8 * (l.length : Int)) = 8 * (l.length : Int) := wr (by omega) (by omega)
 have key := fun (kke : List Int → List Int → Option ByteArray) => it_loopI (L := fun n j all => gq63.l2 kke n l (7 - j) kH all) (N := 8) (step := fun (j : Nat) (acc : List Int) => acc ++ [8 * (l.length : Int) / 2 ^ (8 * (7 - j)) % 256]) (fin := fun all => kke kH all) (fun i out => out.length ≤ 1000000001000 + i) (by
  intro n j acc hj ha
  have es : IntKind.wrap .u64 (IntKind.wrap .i64 (8 * (7 - (j : Int)))) = ((8 * (7 - j) : Nat) : Int) := by
   rw [wr (by omega) (by omega)]
   simp only [IntKind.wrap, IntKind.signed, IntKind.bits]
   simp
   omega
  simp only [gq63.l2]
  rw [decide_t (by omega), ct, es, grd_of (gSh_t (by omega)), grd_of (gRm_t (by simp; omega)), e8, shr_eq (by omega) (by omega), Int.toNat_natCast, wr8m, wr (by omega) (by omega), show (7 - (j : Int) - 1) = 7 - ((j + 1 : Nat) : Int) by omega]
  exact ⟨rfl, by simp; omega⟩) (by
  intro n acc ha
  simp only [gq63.l2]
  rw [decide_f (by omega), cf]) 8 fuel 0 ((l ++ [128]) ++ List.replicate (padZ l.length) 0) (by omega) (by rw [fuel_eq]; omega) (by simp [padZ]; omega)
 refine (key _).1.trans ?_
 rw [len8]
 show (gq82).bind (fun r => gq63.l3 (fun h2 => gq63.l4 (fun out => some (strL out)) fuel (0 : Int) h2 ([] : List Int)) fuel (padded l) (0 : Int) kH r) = _
 rw [consts_eq, bs]
 have k3 := it_loop (L := fun n j h => gq63.l3 (fun h2 => gq63.l4 (fun out => some (strL out)) fuel (0 : Int) h2 ([] : List Int)) n (padded l) (64 * j) h kK) (N := (l.length + 72) / 64) (step := stH (padded l)) (fin := fun h => gq63.l4 (fun out => some (strL out)) fuel (0 : Int) h ([] : List Int)) HOk ?_ ?_ ((l.length + 72) / 64) fuel 0 kH (by omega) (by rw [fuel_eq]; omega) ⟨kH_len, kH_words⟩
 ·obtain ⟨h1, h2⟩ := k3
  refine h1.trans ?_
  rw [sha]
  obtain ⟨hh, hhd⟩ : ∃ hh, hh = itF (stH (padded l)) 0 ((l.length + 72) / 64) kH := ⟨_, rfl⟩
  rw [← hhd] at h2 ⊢
  have k2 := it_loopI (L := fun n i out => gq63.l4 (fun out => some (strL out)) n i hh out) (N := 8) (step := stO hh) (fin := fun out => some (strL out)) (fun i out => out.length = 4 * i) ?_ ?_ 8 fuel 0 [] (by omega) (by rw [fuel_eq]; omega) (by simp)
  ·exact k2.1
  ·intro n i out hi ho
   have hil : i < hh.length := by rw [h2.1]; exact hi
   have hil' : (i : Int) < (List.length (α := El k32) hh : Int) := by have : List.length (α := El k32) hh = 8 := h2.1; omega
   have hw := h2.2 _ (List.getElem_mem hil)
   simp only [gq63.l4]
   rw [decide_t (by omega), ct, grd_of (gIx_t (by omega) hil'), gSh_l (by decide), grd_of (gIx_t (by omega) hil'), gSh_l (by decide), grd_of (gIx_t (by omega) hil'), gSh_l (by decide), grd_of (gIx_t (by omega) hil'), grd_of (gRm_t (by simp; omega)), Int.toNat_natCast, rdE_at (k := k32) hil, byte4 hw.1 hw.2, wr (by omega) (by omega), show ((i : Int) + 1) = ((i + 1 : Nat) : Int) by omega]
   refine ⟨?_, ?_⟩
   ·rw [stO, rdE_at (k := k32) hil]
   ·simp only [stO, List.length_append, beL_length]
    omega
  ·intro n out ho
   simp only [gq63.l4]
   rw [decide_f (by omega), cf]
 ·intro n j h hj hh
  have hj' : 64 * j + 64 ≤ (padded l).length := by rw [hpl]; omega
  have hpl' : (padded l).length ≤ 1000000000100 := by rw [hpl]; omega
  simp only [gq63.l3]
  rw [decide_t (by omega), ct, wr (by omega) (by omega), grd_of (gSl_t (by omega) (by omega) (by omega)), sub_block, block_s h _ kK ((hpb.drop _).take _) hh.1 kK_len (by simp; omega), bs, show (64 * (j : Int) + 64) = 64 * ((j + 1 : Nat) : Int) by omega]
  exact ⟨rfl, blockF_len _ _ _, blockF_words _ _ _⟩
 ·intro n h hh
  simp only [gq63.l3]
  rw [hpl, decide_f (by omega), cf]
end Go.Proofs.YtooijdhcaghdlaaA
namespace Go.Proofs.YtooijdhcaghdlaaA
open Go
set_option linter.unusedVariables false
set_option linter.unusedSimpArgs false
def nodeL (a b : ByteArray) : List Int := 1 :: (bytesL a ++ bytesL b)
def nodeV (a b : ByteArray) : ByteArray := strL (sha (nodeL a b))
theorem nodeV_size (a b : ByteArray) : (nodeV a b).size = 32 := by rw [nodeV, strL_size, sha_len]
theorem nodeL_bytes (a b : ByteArray) : IsBytes (nodeL a b) := IsBytes.cons (by decide) (by decide) ((IsBytes.bytesL a).append (IsBytes.bytesL b))
theorem node_str (a b : ByteArray) : ((⟨#[1]⟩ : ByteArray) ++ a) ++ b = strL (nodeL a b) := by
 have h : (⟨#[1]⟩ : ByteArray) = strL [1] := rfl
 rw [h]
 conv => lhs; rw [← strL_bytesL a, ← strL_bytesL b]
 rw [strL_append, strL_append]
 rfl
theorem nodeHash_i (a b : ByteArray) (ha : a.size ≤ 1000000000) (hb : b.size ≤ 1000000000) : gq74 a b = some (nodeV a b) := by
 unfold gq74 gq74.F
 have h1 : ByteArray.size (⟨#[1]⟩ : ByteArray) = 1 := rfl
 rw [grd_of (gCat_t (by omega)), grd_of (gCat_t (by rw [ByteArray.size_append]; omega)), node_str, hash_i _ (nodeL_bytes a b) (by simp [nodeL, bytesL_length]; omega), bs]
 rfl
theorem node_s (a b : ByteArray) (ha : a.size ≤ 1000000000) (hb : b.size ≤ 1000000000) : gq64 a b = some (nodeV a b) := by
 unfold gq64 gq64.F
 rw [grd_of (gRm_t (by simp [bytesL_length]; omega)), grd_of (gRm_t (by simp [bytesL_length]; omega))]
 have h : ([(1 : Int)] ++ bytesL a) ++ bytesL b = nodeL a b := by simp [nodeL]
 rw [h, hash_s _ (nodeL_bytes a b) (by simp [nodeL, bytesL_length]; omega), bs]
 rfl
theorem half_loop {R R' : Type} (kke : Int → Option R) (kke' : Int → Option R') (N : Int) (hN : N ≤ 1000000000) : ∀ (m n : Nat) (k : Int), 1 ≤ k → k < N → N - k ≤ m → m < n →
  ∃ r, gq58.l1 kke n N k = kke r ∧ gq57.l1 kke' n N k = kke' r ∧ 1 ≤ r ∧ r < N
 | 0, n, k, h1, h2, h3, h4 => by omega
 | m + 1, n + 1, k, h1, h2, h3, h4 => by
  simp only [gq58.l1, gq57.l1]
  rw [wr (x := 2 * k) (by omega) (by omega)]
  by_cases h : 2 * k < N
  ·rw [decide_t h, ct, ct, wr (x := k * 2) (by omega) (by omega)]
   exact half_loop kke kke' N hN m n (k * 2) (by omega) (by omega) (by omega) (by omega)
  ·rw [decide_f h, cf, cf]
   exact ⟨k, rfl, rfl, h1, h2⟩
noncomputable def half (N : Int) : Int := (gq58 N).getD 0
theorem half_eq (N : Int) (h : 2 ≤ N) (hN : N ≤ 1000000000) : gq58 N = some (half N) ∧ gq57 N = some (half N) ∧ 1 ≤ half N ∧ half N < N := by
 obtain ⟨r, h1, h2, h3, h4⟩ := half_loop (fun k => some k) (fun k => some k) N hN N.toNat fuel 1 (by decide) (by omega) (by omega) (by rw [fuel_eq]; omega)
 have h5 : gq58 N = some r := h1
 have h6 : gq57 N = some r := h2
 have h7 : half N = r := by rw [half, h5]; rfl
 rw [h7]
 exact ⟨h5, h6, h3, h4⟩
def Small (p : List ByteArray) : Prop := p.length ≤ 100000000 ∧ ∀ s ∈ p, s.size ≤ 1000000
theorem Small.drop {p : List ByteArray} (h : Small p) (n : Nat) : Small (p.drop n) := ⟨by have := h.1; simp; omega, fun s hs => h.2 s (List.mem_of_mem_drop hs)⟩
end Go.Proofs.YtooijdhcaghdlaaA
namespace Go.Proofs.YtooijdhcaghdlaaA
open Go
set_option linter.unusedVariables false
set_option linter.unusedSimpArgs false
theorem shr_u8 {x : Int} {n : Int} (h0 : 0 ≤ n) (h1 : n ≤ 8) : iShr .u8 x n = x / 2 ^ n.toNat := by
 unfold iShr
 rw [show min n.toNat (IntKind.bits .u8) = n.toNat by simp [IntKind.bits]; omega]
 rw [Int.fdiv_eq_ediv_of_nonneg]
 exact Int.pow_nonneg (by decide)
theorem one_u8 {x : Int} (h0 : 0 ≤ x) (h1 : x < 256) : iAnd .u8 x 1 = x % 2 := by
 obtain ⟨n, rfl⟩ : ∃ n : Nat, x = n := ⟨x.toNat, by omega⟩
 unfold iAnd bits
 rw [BitVec.toNat_and, BitVec.ofInt_natCast, BitVec.toNat_ofNat, Nat.mod_eq_of_lt (show n < 2 ^ IntKind.bits .u8 from by simp [IntKind.bits]; omega), show (BitVec.ofInt (IntKind.bits .u8) 1).toNat = 2 ^ 1 - 1 from rfl, Nat.and_two_pow_sub_one_eq_mod, wr8m]
 omega
theorem one_i64 {x : Int} (h0 : 0 ≤ x) (h1 : x < 256) : iAnd .i64 x 1 = x % 2 := by
 obtain ⟨n, rfl⟩ : ∃ n : Nat, x = n := ⟨x.toNat, by omega⟩
 unfold iAnd bits
 rw [BitVec.toNat_and, BitVec.ofInt_natCast, BitVec.toNat_ofNat, Nat.mod_eq_of_lt (show n < 2 ^ IntKind.bits .i64 from by simp [IntKind.bits]; omega), show (BitVec.ofInt (IntKind.bits .i64) 1).toNat = 2 ^ 1 - 1 from rfl, Nat.and_two_pow_sub_one_eq_mod, wr (by omega) (by omega)]
 omega
def bitB (l : List Int) (i : Nat) : Bool := decide (l.getD (i / 8) 0 / 2 ^ (7 - i % 8) % 2 = 1)
def bitsL (l : List Int) : List Bool := (List.range 256).map (bitB l)
theorem bitsL_len (l : List Int) : (bitsL l).length = 256 := by simp [bitsL]
theorem bitsL_get (l : List Int) (i : Nat) (h : i < 256) : (bitsL l).getD i false = bitB l i := by simp [bitsL, List.getD, h]
theorem getD_bytes {l : List Int} (hb : IsBytes l) (i : Nat) : 0 ≤ l.getD i 0 ∧ l.getD i 0 < 256 := by
 rw [List.getD_eq_getElem?_getD]
 by_cases h : i < l.length
 ·rw [List.getElem?_eq_getElem h]; exact hb.get h
 ·rw [List.getElem?_eq_none (by omega)]; exact ⟨by decide, by decide⟩
theorem shr_bounds {x : Int} (h0 : 0 ≤ x) (h1 : x < 256) (n : Nat) : 0 ≤ x / 2 ^ n ∧ x / 2 ^ n < 256 := by
 have hp : (0 : Int) < 2 ^ n := Int.pow_pos (by decide)
 refine ⟨Int.ediv_nonneg h0 (Int.le_of_lt hp), ?_⟩
 have := Int.ediv_le_self (2 ^ n : Int) h0
 omega
theorem i_bit_eq (l : List Int) (hb : IsBytes l) (hl : l.length = 32) (i : Nat) (h : i < 256) : i_bit (strL l) (i : Int) = some (if bitB l i then 1 else 0) := by
 unfold i_bit i_bit.F
 rw [grd_of (gNz_t (by decide)), tdiv_pos (by omega), tmod_pos (by omega), wr (x := (i : Int) / 8) (by omega) (by omega), wr (x := 7 - (i : Int) % 8) (by omega) (by omega),
  grd_of (gIx_t (by omega) (by rw [strL_size, hl]; omega)), grd_of (gNz_t (by decide)), grd_of (gSh_t (by omega)), byteAt_strL hb (by omega) (by rw [hl]; omega), shr_u8 (by omega) (by omega)]
 rw [show ((i : Int) / 8).toNat = i / 8 by omega, show (7 - (i : Int) % 8).toNat = 7 - i % 8 by omega]
 have h0 := getD_bytes hb (i / 8)
 have h1 := shr_bounds h0.1 h0.2 (7 - i % 8)
 unfold bitB
 generalize l.getD (i / 8) 0 / 2 ^ (7 - i % 8) = y at h1 ⊢
 rw [wr (by omega) (by omega), one_i64 h1.1 h1.2]
 by_cases hy : y % 2 = 1
 ·simp [hy]
 ·have : y % 2 = 0 := by omega
  simp [this]
def bI (b : Bool) : Int := if b then 49 else 48
theorem bI_bytes (l : List Bool) : IsBytes (l.map bI) := fun y hy => by
 obtain ⟨b, _, rfl⟩ := List.mem_map.1 hy
 cases b <;> decide
theorem bI_inj {l m : List Bool} : l.map bI = m.map bI ↔ l = m := List.map_inj_right fun a b h => by cases a <;> cases b <;> simp_all [bI]
theorem bitsL_step (l : List Int) (i k : Nat) (hi : i < 32) (hk : k < 8) : ((List.range 256).map (bitB l)).take (8 * i + k + 1) = ((List.range 256).map (bitB l)).take (8 * i + k) ++ [bitB l (8 * i + k)] := by
 rw [take_snoc (by simp; omega)]
 simp
theorem bits_l1 {R : Type} (kke : ByteArray → Int → List Int → Option R) (l : List Int) (hb : IsBytes l) (hl : l.length = 32) (i : Nat) (hi : i < 32) : ∀ (m n : Nat), m ≤ 8 → m < n →
  gq80.l1 kke n (strL l) (i : Int) ((m : Int) - 1) (((bitsL l).take (8 * i + (8 - m))).map bI) = kke (strL l) i (((bitsL l).take (8 * i + 8)).map bI)
 | 0, n + 1, _, _ => by
  simp only [gq80.l1]
  rw [decide_f (by omega), cf]
 | m + 1, n + 1, hm, hn => by
  simp only [gq80.l1]
  have hw : IntKind.wrap .u64 ((m : Int) + 1 - 1) = m := by
   simp only [IntKind.wrap, IntKind.signed, IntKind.bits]
   simp
   omega
  have e1 : ((m + 1 : Nat) : Int) - 1 = (m : Int) + 1 - 1 := by omega
  rw [e1, decide_t (by omega), ct, grd_of (gIx_t (by omega) (by rw [strL_size]; omega)), hw, grd_of (gSh_t (by omega)), grd_of (gRm_t (by simp; omega)), byteAt_strL hb (by omega) (by omega), Int.toNat_natCast, shr_u8 (by omega) (by omega), Int.toNat_natCast]
  have h0 := getD_bytes hb i
  have h1 := shr_bounds h0.1 h0.2 m
  rw [one_u8 h1.1 h1.2]
  have hbit : bitB l (8 * i + (8 - (m + 1))) = decide (l.getD i 0 / 2 ^ m % 2 = 1) := by
   unfold bitB
   rw [show (8 * i + (8 - (m + 1))) / 8 = i by omega, show 7 - (8 * i + (8 - (m + 1))) % 8 = m by omega]
  have hv : IntKind.wrap .u8 (48 + l.getD i 0 / 2 ^ m % 2) = bI (bitB l (8 * i + (8 - (m + 1)))) := by
   rw [hbit]
   generalize l.getD i 0 / 2 ^ m = y at *
   rw [wr8 (by omega) (by omega)]
   by_cases hy : y % 2 = 1
   ·simp [hy, bI]
   ·have : y % 2 = 0 := by omega
    simp [this, bI]
  rw [hv, show [bI (bitB l (8 * i + (8 - (m + 1))))] = [bitB l (8 * i + (8 - (m + 1)))].map bI from rfl, ← List.map_append]
  have hst := bitsL_step l i (8 - (m + 1)) hi (by omega)
  unfold bitsL
  rw [← hst, wr (x := (m : Int) + 1 - 1 - 1) (by omega) (by omega)]
  have := bits_l1 kke l hb hl i hi m n (by omega) (by omega)
  unfold bitsL at this
  rw [show 8 * i + (8 - (m + 1)) + 1 = 8 * i + (8 - m) by omega, show (m : Int) + 1 - 1 - 1 = (m : Int) - 1 by omega]
  exact this
theorem bits_l2 {R : Type} (kke : List Int → Option R) (l : List Int) (hb : IsBytes l) (hl : l.length = 32) : ∀ (m n i : Nat), i + m = 32 → m < n →
  gq80.l2 kke n (strL l) (i : Int) (((bitsL l).take (8 * i)).map bI) = kke ((bitsL l).map bI)
 | 0, n + 1, i, e, _ => by
  simp only [gq80.l2]
  rw [decide_f (by rw [strL_size]; omega), cf, List.take_of_length_le (by rw [bitsL_len]; omega)]
 | m + 1, n + 1, i, e, hn => by
  simp only [gq80.l2]
  rw [decide_t (by rw [strL_size]; omega), ct]
  have := bits_l1 (fun h1 i1 out1 => gq80.l2 kke n h1 (IntKind.wrap .i64 (i1 + (1 : Int))) out1) l hb hl i (by omega) 8 fuel (by omega) (fuel_big (by omega))
  rw [show 8 * i + (8 - 8) = 8 * i by omega, show ((8 : Nat) : Int) - 1 = 7 from rfl] at this
  rw [this, wr (by omega) (by omega), show 8 * i + 8 = 8 * (i + 1) by omega, show (i : Int) + 1 = ((i + 1 : Nat) : Int) by omega]
  exact bits_l2 kke l hb hl m n (i + 1) (by omega) (by omega)
theorem bits_eq (l : List Int) (hb : IsBytes l) (hl : l.length = 32) : gq80 (strL l) = some (strL ((bitsL l).map bI)) := by
 unfold gq80 gq80.F
 have := bits_l2 (fun out => some (strL out)) l hb hl 32 fuel 0 (by omega) (fuel_big (by omega))
 simpa using this
abbrev VB := ByteArray × ByteArray × Int
def hV (k : ByteArray) : List Int := sha (bytesL k)
theorem hV_len (k : ByteArray) : (hV k).length = 32 := sha_len _
theorem hV_bytes (k : ByteArray) : IsBytes (hV k) := sha_bytes _
def kbB (v : VB) : List Bool := bitsL (hV v.1)
def lfB (v : VB) : Bool := decide (v.2.2 = 256) && isKeyB v.1 && decide (v.2.1.size ≤ 60)
def fkB (v : VB) : Bool := sEq v.1 ByteArray.empty && sEq v.2.1 ByteArray.empty && decide (0 ≤ v.2.2)
def atB (v : VB) : Nat := v.2.2.toNat
def prB (v : VB) : El kk27b := (v.1, (v.2.1, strL (hV v.1)))
abbrev gdB (d fr : Nat) (t : Tree VB) : Option (List VB) := gdT lfB fkB atB kbB d fr t
theorem isLeaf_eq (k v : ByteArray) (a : Int) (l : List (El kk8eb)) : gq93 k v a l = some (lfB (k, v, a) && decide (l.length = 0)) := by
 unfold gq93 gq93.F lfB
 simp only [isKey_eq, isValue_eq, bs]
 by_cases h : a = 256
 ·subst h
  cases isKeyB k <;> simp
  cases decide (v.size ≤ 60) <;> simp
  rw [Bool.eq_iff_iff]; simp
 ·rw [show (a == 256) = false by simpa using h]
  simp [h]
theorem isFork_eq (k v : ByteArray) (a : Int) (l : List (El kk8eb)) : gq94 k v a l = some (fkB (k, v, a) && decide (a ≤ 255) && decide (l.length = 2)) := by
 unfold gq94 gq94.F fkB
 simp only [within_eq, bs]
 cases sEq k ByteArray.empty <;> cases sEq v ByteArray.empty <;> simp
 by_cases h : 0 ≤ a ∧ a ≤ 255
 ·simp [h.1, h.2]
  rw [Bool.eq_iff_iff]; simp; omega
 ·by_cases h1 : 0 ≤ a
  ·simp [h1, show ¬ a ≤ 255 by omega]
  ·simp [h1]
theorem contains_pair (f : (((ByteArray × ByteArray × ByteArray × Unit) × Unit) → Option (Bool × Unit))) (q : El kk27b → Bool) (l : List (El kk27b)) (hl : l.length ≤ 1000000000) (hf : ∀ x ∈ l, f ((x.1, x.2.1, x.2.2, ()), ()) = some (q x, ())) :
  gq95 l f = some (l.any q) := by
 unfold gq95 gq95.F gq109 gq109.F
 have := find_loop (k := kk27b) (f := fun x => f ((x.1, x.2.1, x.2.2, ()), ())) (L := gq109.l1 f (some (-1 : Int)) (fun i => some i)) (fun n s i j => rfl) (l := l) (by omega) hf l.length fuel 0 (by omega) (fuel_big (by omega))
 rw [Int.natCast_zero] at this
 rw [this, List.drop_zero, ← findIdx_any]
 cases l.findIdx? q with
 | none => rfl
 | some d => simp
theorem sameAhead_eq (a b : List Int) (ha : IsBytes a) (la : a.length = 32) (hb : IsBytes b) (lb : b.length = 32) (n : Nat) (hn : n ≤ 256) : gq99 (strL a) (strL b) (n : Int) = some ((bitsL a).take n == (bitsL b).take n) := by
 unfold gq99 gq99.F
 have key : ∀ (m fu i : Nat), i + m = n → m < fu → (bitsL a).take i = (bitsL b).take i → gq99.l1 (some true) (fun b1 => some b1) fu (strL a) (strL b) (n : Int) (i : Int) = some ((bitsL a).take n == (bitsL b).take n) := by
  intro m
  induction m with
  | zero =>
   intro fu i e hf hp
   obtain ⟨fu, rfl⟩ : ∃ q, fu = q + 1 := ⟨fu - 1, by omega⟩
   simp only [gq99.l1]
   rw [decide_f (by omega), cf, show n = i by omega, hp]
   simp
  | succ m ih =>
   intro fu i e hf hp
   obtain ⟨fu, rfl⟩ : ∃ q, fu = q + 1 := ⟨fu - 1, by omega⟩
   simp only [gq99.l1]
   have h1 := bitsL_get a i (by omega)
   have h2 := bitsL_get b i (by omega)
   rw [decide_t (by omega), ct, i_bit_eq a ha la i (by omega), bs, i_bit_eq b hb lb i (by omega), bs]
   by_cases hq : bitB a i = bitB b i
   ·rw [hq, show ((if bitB b i then (1 : Int) else 0) != (if bitB b i then (1 : Int) else 0)) = false by simp, cf, wr (by omega) (by omega), show (i : Int) + 1 = ((i + 1 : Nat) : Int) by omega]
    refine ih fu (i + 1) (by omega) (by omega) ?_
    rw [take_snoc (by rw [bitsL_len]; omega), take_snoc (by rw [bitsL_len]; omega), hp]
    congr 2
    rw [List.getD_eq_getElem?_getD, List.getElem?_eq_getElem (by rw [bitsL_len]; omega)] at h1 h2
    simp only [Option.getD_some] at h1 h2
    rw [h1, h2, hq]
   ·rw [show ((if bitB a i then (1 : Int) else 0) != (if bitB b i then (1 : Int) else 0)) = true by
     cases h3 : bitB a i <;> cases h4 : bitB b i <;> simp_all, ct]
    congr 1
    symm
    rw [beq_eq_false_iff_ne]
    intro h
    have := congrArg (fun l : List Bool => l.getD i false) h
    simp only [List.getD_eq_getElem?_getD, List.getElem?_take, show i < n from by omega, if_true] at this
    rw [← List.getD_eq_getElem?_getD, ← List.getD_eq_getElem?_getD, h1, h2] at this
    exact hq this
 exact key n fuel 0 (by omega) (fuel_big (by omega)) rfl
end Go.Proofs.YtooijdhcaghdlaaA
namespace Go.Proofs.YtooijdhcaghdlaaA
open Go
set_option linter.unusedVariables false
set_option linter.unusedSimpArgs false
end Go.Proofs.YtooijdhcaghdlaaA
namespace Go.Proofs.YtooijdhcaghdlaaA
open Go
set_option linter.unusedVariables false
set_option linter.unusedSimpArgs false
end Go.Proofs.YtooijdhcaghdlaaA
namespace Go.Proofs.YtooijdhcaghdlaaA
open Go
set_option linter.unusedVariables false
set_option linter.unusedSimpArgs false
end Go.Proofs.YtooijdhcaghdlaaA
namespace Go.Proofs.YtooijdhcaghdlaaA
open Go
set_option linter.unusedVariables false
set_option linter.unusedSimpArgs false
structure SzS (a : List ByteArray) : Prop where
 len : a.length ≤ 1048576
 each : ∀ s ∈ a, s.size ≤ 1048576
theorem szStringS_eq (a : List ByteArray) (left : Int) (h : 0 ≤ left) (hl : left ≤ 1048576) (ha : a.length ≤ 9223372036854775) (hs : ∀ s ∈ a, s.size ≤ 140737488351232) : ∃ r, gq20 a left = some r ∧ r ≤ left ∧ (¬ r < 0 → SzS a) := by
 unfold gq20 gq20.F
 rw [wr (x := left - (a.length : Int)) (by omega) (by omega)]
 by_cases h0 : left - (a.length : Int) < 0
 ·rw [decide_t h0, ct]
  exact ⟨_, rfl, by omega, fun h => by omega⟩
 ·rw [decide_f h0, cf]
  have key : ∀ (m n i : Nat) (q : Int), i + m = a.length → m < n → 0 ≤ q → q ≤ left → ∃ r, gq20.l1 (fun left1 => some left1) (fun i => some i) n a q i = some r ∧ r ≤ left ∧ (¬ r < 0 → ∀ s ∈ a.drop i, s.size ≤ 1048576) := by
   intro m
   induction m with
   | zero =>
    intro n i q e hn hq hq1
    obtain ⟨n, rfl⟩ : ∃ q, n = q + 1 := ⟨n - 1, by omega⟩
    simp only [gq20.l1]
    rw [decide_f (by omega), cf, List.drop_of_length_le (by omega)]
    exact ⟨_, rfl, hq1, fun _ s hs => by simp at hs⟩
   | succ m ih =>
    intro n i q e hn hq hq1
    obtain ⟨n, rfl⟩ : ∃ q, n = q + 1 := ⟨n - 1, by omega⟩
    have hi : i < a.length := by omega
    have h2 := hs _ (List.getElem_mem hi)
    simp only [gq20.l1]
    rw [decide_t (by omega), ct, grd_of (gIx_t (by omega) (by omega)), Int.toNat_natCast, rdE_at (k := .str) hi, wr (x := q - (a[i].size : Int)) (by omega) (by omega)]
    by_cases h3 : q - (a[i].size : Int) < 0
    ·rw [decide_t h3, ct]
     exact ⟨_, rfl, by omega, fun h => by omega⟩
    ·rw [decide_f h3, cf, wr (x := (i : Int) + 1) (by omega) (by omega)]
     obtain ⟨r, h4, h5, h6⟩ := ih n (i + 1) _ (by omega) (by omega) (by omega : 0 ≤ q - (a[i].size : Int)) (by omega)
     rw [show ((i + 1 : Nat) : Int) = (i : Int) + 1 by omega] at h4
     refine ⟨r, h4, h5, fun h s hs => ?_⟩
     rw [drop_cons hi] at hs
     rcases List.mem_cons.1 hs with rfl | hs
     ·omega
     ·exact h6 h s hs
  obtain ⟨r, h4, h5, h6⟩ := key a.length fuel 0 _ (by omega) (fuel_big (by omega)) (by omega : 0 ≤ left - (a.length : Int)) (by omega)
  refine ⟨r, h4, h5, fun h => ⟨by omega, fun s hs => h6 h s (by simpa using hs)⟩⟩
theorem toStringS_eq (a : List ByteArray) (h : a.length ≤ 1048576) : gq25 a = some a := by
 unfold gq25 gq25.F
 rw [grd_of (gMk_t (by omega) (by omega) (by omega))]
 refine copy_loop (k := .str) (L := fun n i out => gq25.l1 (fun out => some out) n a i out) (fin := fun out => some out) ?_ ?_ a.length fuel 0 _ (by omega) (fuel_big (by omega)) (by simp) (by simp)
 ·intro n i out hi hl
  simp only [gq25.l1]
  rw [decide_t (by omega), ct, grd_of (gIx_t (by omega) (by omega)), grd_of (gIx_t (by omega) (by omega)), wr (by omega) (by omega), Int.toNat_natCast, rdE_at (k := .str) hi, show ((i : Int) + 1) = ((i + 1 : Nat) : Int) by omega]
  rfl
 ·intro n out
  simp only [gq25.l1]
  rw [decide_f (by omega), cf]
theorem eqStringS_self (a : List ByteArray) (h : a.length ≤ 1048576) : gq14 a a = some true := by
 unfold gq14 gq14.F
 rw [show ((a.length : Int) != a.length) = false by simp, cf]
 have hs : ∀ (n : Nat) (s : Unit) (i : Nat), i < a.length → True → gq14.l1 (some true) (fun b1 => some b1) (n + 1) a a (i : Int) = gq14.l1 (some true) (fun b1 => some b1) n a a ((i + 1 : Nat) : Int) := by
  intro n _ i hi _
  simp only [gq14.l1]
  rw [decide_t (by omega), ct, grd_of (gIx_t (by omega) (by omega)), grd_of (gIx_t (by omega) (by omega)), sEq_self, Bool.not_true, cf, wr (by omega) (by omega), show ((i : Int) + 1) = ((i + 1 : Nat) : Int) by omega]
 have h0 : ∀ (n : Nat) (s : Unit), True → gq14.l1 (some true) (fun b1 => some b1) (n + 1) a a (a.length : Int) = some true := by
  intro n _ _
  simp only [gq14.l1]
  rw [decide_f (by omega), cf]
 obtain ⟨_, h1, _⟩ := pass_loop (S := Unit) (L := fun n _ i => gq14.l1 (some true) (fun b1 => some b1) n a a i) (len := a.length) (step := fun _ _ => ()) (fin := fun _ => some true) (fun _ _ => True) hs (fun _ _ _ _ => trivial) h0 a.length fuel 0 () (by omega) (fuel_big (by omega)) trivial
 exact h1
end Go.Proofs.YtooijdhcaghdlaaA
namespace Go.Proofs.YtooijdhcaghdlaaA
open Go
set_option linter.unusedVariables false
set_option linter.unusedSimpArgs false
theorem any_not_all {α : Type} (q : α → Bool) (l : List α) : (!(l.any fun x => !q x)) = l.all q := by
 induction l with
 | nil => rfl
 | cons x l ih => rw [List.any_cons, List.all_cons, ← ih]; cases q x <;> simp
def is32 (t : ByteArray) : Bool := decide (t.size = 32)
theorem isHash_eq (l : List ByteArray) (h : l.length ≤ 1000000000) : gq49 l = some (l.all is32) := by
 unfold gq49 gq49.F gq69 gq69.F gq84 gq84.F
 have hq : ∀ x ∈ l, (fun x : ByteArray => (fun t : ByteArray × Unit => (gq70 t.1).bind fun a => some (a, ())) (x, ())) x = some (!is32 x, ()) := by
  intro x _
  have : ((x.size : Int) != 32) = !is32 x := by
   rw [Bool.eq_iff_iff, bne_iff_ne, is32, Bool.not_eq_true', decide_eq_false_iff_not]
   omega
  simp only [gq70, gq70.F, bs, this]
 have := find_loop (k := .str) (L := gq84.l1 (fun t => (gq70 t.1).bind fun a => some (a, ())) (some (-1 : Int)) (fun i => some i)) (fun n s i j => rfl) (l := l) (by omega) hq l.length fuel 0 (by omega) (fuel_big (by omega))
 rw [Int.natCast_zero] at this
 rw [this, List.drop_zero, ← any_not_all, ← findIdx_any]
 cases l.findIdx? fun x => !is32 x with
 | none => rfl
 | some d => simp
theorem l06Hashes_eq (l : List ByteArray) (h : l.length ≤ 1000000000) : gq43 l = some (decide (l.length ≤ 64) && l.all is32) := by
 unfold gq43 gq43.F
 by_cases h0 : l.length > 64
 ·rw [decide_t (by omega), ct, decide_f (by omega), Bool.false_and]
 ·rw [decide_f (by omega), cf, decide_t (by omega), Bool.true_and]
  have key : ∀ (m n j : Nat), j + m = l.length → m < n → gq43.l1 (some true) (fun b => some b) n l j = some ((l.drop j).all is32) := by
   intro m
   induction m with
   | zero =>
    intro n j e hn
    obtain ⟨n, rfl⟩ : ∃ q, n = q + 1 := ⟨n - 1, by omega⟩
    simp only [gq43.l1]
    rw [decide_f (by omega), cf, List.drop_of_length_le (by omega)]
    rfl
   | succ m ih =>
    intro n j e hn
    obtain ⟨n, rfl⟩ : ∃ q, n = q + 1 := ⟨n - 1, by omega⟩
    have hj : j < l.length := by omega
    simp only [gq43.l1]
    rw [decide_t (by omega), ct, grd_of (gIx_t (by omega) (by omega)), Int.toNat_natCast, rdE_at (k := .str) hj, drop_cons hj, List.all_cons]
    by_cases h1 : l[j].size = 32
    ·rw [show ((l[j].size : Int) != 32) = false by simp [h1], cf, wr (by omega) (by omega), show ((j : Int) + 1) = ((j + 1 : Nat) : Int) by omega, ih n (j + 1) (by omega) (by omega), show is32 l[j] = true from decide_eq_true h1, Bool.true_and]
    ·rw [show ((l[j].size : Int) != 32) = true by simp; omega, ct, show is32 l[j] = false from decide_eq_false h1, Bool.false_and]
  exact key l.length fuel 0 (by omega) (fuel_big (by omega))
end Go.Proofs.YtooijdhcaghdlaaA
namespace Go.Proofs.YtooijdhcaghdlaaA
open Go
set_option linter.unusedVariables false
set_option linter.unusedSimpArgs false
theorem val_eq (t : Tree VB) : ((Tree.val t).1, (Tree.val t).2.1, (Tree.val t).2.2) = Tree.val t := rfl
def PrOk (g : Option (List VB)) (room : Int) (r : List (El kk27b) × Bool × Int) : Prop :=
 match g with
 | some l => if (l.length : Int) ≤ room then r = (l.map prB, true, room - l.length) else r.2.1 = false
 | none => r.2.1 = false
theorem PrOk.of_false {g : Option (List VB)} {room : Int} {r : List (El kk27b) × Bool × Int} (h : r.2.1 = false) (hg : ∀ l, g = some l → room < l.length) : PrOk g room r := by
 unfold PrOk
 split
 ·rename_i l
  rw [if_neg (by have := hg l rfl; omega)]; exact h
 ·exact h
theorem PrOk.true {g : Option (List VB)} {room : Int} {r : List (El kk27b) × Bool × Int} (h : PrOk g room r) (ht : r.2.1 = true) : ∃ l, g = some l ∧ (l.length : Int) ≤ room ∧ r = (l.map prB, true, room - l.length) := by
 unfold PrOk at h
 split at h
 ·rename_i l
  split at h
  ·exact ⟨l, rfl, by assumption, h⟩
  ·rw [h] at ht; cases ht
 ·rw [h] at ht; cases ht
theorem pairs_i : ∀ (d fu fr : Nat) (t : Tree VB) (room : Int), d < fu → 257 ≤ d + fr → fr ≤ 256 → -1000 ≤ room → room ≤ 40 →
  ∃ r, gq85 fu (Tree.val t).1 (Tree.val t).2.1 (Tree.val t).2.2 (Tree.kids t) ((fr : Int) - 1) room = some r ∧ PrOk (gdB d fr t) room r
 | 0, _, fr, _, _, _, h, h', _, _ => by omega
 | d + 1, fu + 1, fr, t, room, hf, hd, hfr, hr0, hr => by
  simp only [gq85, gq85.F]
  rw [isLeaf_eq, bs]
  cases hlf : (lfB ((Tree.val t).1, (Tree.val t).2.1, (Tree.val t).2.2) && decide ((Tree.kids t).length = 0)) with
  | true =>
   rw [ct, ← strL_bytesL (Tree.val t).1, hash_i _ (IsBytes.bytesL _) (by
    have := (Bool.and_eq_true _ _).mp hlf |>.1
    unfold lfB isKeyB at this
    simp at this
    rw [bytesL_length]; omega), bs, wr (by omega) (by omega)]
   rw [Bool.and_eq_true, decide_eq_true_eq] at hlf
   have hk : Tree.kids t = [] := List.length_eq_zero_iff.1 hlf.2
   have hg : gdB (d + 1) fr t = some [Tree.val t] := by
    unfold gdB gdT
    rw [hk]
    simp only
    rw [if_pos (by rw [← val_eq t]; exact hlf.1)]
   refine ⟨_, rfl, ?_⟩
   rw [hg]
   unfold PrOk
   simp only [List.length_cons, List.length_nil]
   by_cases h1 : (1 : Int) ≤ room
   ·rw [if_pos (by omega), decide_t (by omega)]
    simp only [prB, hV, strL_bytesL, List.map_cons, List.map_nil]
    rfl
   ·rw [if_neg (by omega), decide_f (by omega)]
  | false =>
   rw [cf, isFork_eq, bs]
   cases hfk : (fkB ((Tree.val t).1, (Tree.val t).2.1, (Tree.val t).2.2) && decide ((Tree.val t).2.2 ≤ 255) && decide ((Tree.kids t).length = 2)) with
   | false =>
    refine ⟨_, rfl, PrOk.of_false rfl fun l hl => ?_⟩
    exfalso
    unfold gdB gdT at hl
    split at hl
    ·rename_i hk
     split at hl
     ·rename_i h1
      rw [hk, val_eq, h1] at hlf
      simp at hlf
     ·cases hl
    ·rename_i a b hk
     split at hl
     ·rename_i h1
      rw [hk, val_eq] at hfk
      simp only [Bool.and_eq_true, decide_eq_true_eq] at h1
      have h0 : 0 ≤ (Tree.val t).2.2 := by
       have := h1.1.1
       unfold fkB at this
       simp only [Bool.and_eq_true, decide_eq_true_eq] at this
       exact this.2
      have h2 : (Tree.val t).2.2 ≤ 255 := by
       have := h1.2
       unfold atB at this
       omega
      simp [h1.1.1, h2] at hfk
     ·cases hl
    ·cases hl
   | true =>
    rw [Bool.not_true, cf]
    simp only [Bool.and_eq_true, decide_eq_true_eq] at hfk
    obtain ⟨⟨hfk, ha⟩, hk2⟩ := hfk
    obtain ⟨a, b, hk⟩ : ∃ a b, Tree.kids t = [a, b] := by
     match h : Tree.kids t, hk2 with
     | [a, b], _ => exact ⟨a, b, rfl⟩
    have h0 : 0 ≤ (Tree.val t).2.2 := by
     have := hfk
     unfold fkB at this
     simp only [Bool.and_eq_true, decide_eq_true_eq] at this
     exact this.2
    obtain ⟨A, hA⟩ : ∃ A : Nat, (Tree.val t).2.2 = A := ⟨(Tree.val t).2.2.toNat, by omega⟩
    have hat : atB (Tree.val t) = A := by unfold atB; omega
    rw [hA] at ha h0 ⊢
    have hA2 : A ≤ 255 := by omega
    by_cases hab : (A : Int) ≤ (fr : Int) - 1
    ·rw [decide_t hab, ct]
     refine ⟨_, rfl, PrOk.of_false rfl fun l hl => ?_⟩
     exfalso
     unfold gdB gdT at hl
     rw [hk] at hl
     dsimp only at hl
     rw [hat] at hl
     split at hl
     ·rename_i h1
      simp only [Bool.and_eq_true, decide_eq_true_eq] at h1
      omega
     ·cases hl
    ·rw [decide_f hab, cf]
     have hfA : fr ≤ A := by omega
     obtain ⟨q, hq⟩ : ∃ q, fuel = q + 1 + 1 + 1 := by
      obtain ⟨m, h⟩ := fuel_gt (n := 2) (by omega)
      exact ⟨m, by omega⟩
     rw [hq, hk]
     have hside : ∀ (l : List VB) (z : Int), l.length ≤ 1000 → (z = 0 ∨ z = 1) → gq95 (l.map prB) (fun t_1 => (gq96 t_1.1.1 t_1.1.2.1 t_1.1.2.2.1 (Tree.val t).1 (Tree.val t).2.1 (A : Int) [a, b] z).bind fun a => some (a, ())) = some (l.any fun p => (kbB p).getD A false != decide (z = 1)) := by
      intro l z hl hz
      rw [contains_pair _ (fun x => (match gq80 x.2.2 with | some s => decide (byteAt s A = 49) | none => false) != decide (z = 1)) _ (by simp; omega)]
      ·rw [List.any_map]
       congr 2
       funext p
       simp only [Function.comp, prB]
       rw [bits_eq _ (hV_bytes _) (hV_len _)]
       simp only
       rw [byteAt_strL (bI_bytes _) (by omega) (by simp [bitsL_len]; omega), Int.toNat_natCast]
       congr 1
       unfold kbB
       rw [List.getD_eq_getElem?_getD, List.getD_eq_getElem?_getD, List.getElem?_map]
       rw [List.getElem?_eq_getElem (by rw [bitsL_len]; omega)]
       simp only [Option.map_some, Option.getD_some]
       cases (bitsL (hV p.1))[A]'(by rw [bitsL_len]; omega) <;> rfl
      ·intro x hx
       obtain ⟨p, _, rfl⟩ := List.mem_map.1 hx
       simp only [prB, gq96, gq96.F]
       rw [i_bit_eq _ (hV_bytes _) (hV_len _) A (by omega), bs, bs, bits_eq _ (hV_bytes _) (hV_len _)]
       simp only
       rw [byteAt_strL (bI_bytes _) (by omega) (by simp [bitsL_len]; omega), Int.toNat_natCast, List.getD_eq_getElem?_getD, List.getElem?_map, List.getElem?_eq_getElem (by rw [bitsL_len]; omega)]
       have h1 := bitsL_get (hV p.1) A (by omega)
       rw [List.getD_eq_getElem?_getD, List.getElem?_eq_getElem (by rw [bitsL_len]; omega)] at h1
       simp only [Option.map_some, Option.getD_some] at h1 ⊢
       rw [h1]
       rcases hz with rfl | rfl <;> cases bitB (hV p.1) A <;> rfl
     have hsame : ∀ (l : List VB), l ≠ [] → l.length ≤ 1000 → gq95 (l.map prB) (fun t_1 => (gq98 t_1.1.1 t_1.1.2.1 t_1.1.2.2.1 (l.map prB) (Tree.val t).1 (Tree.val t).2.1 (A : Int) [a, b]).bind fun a => some (a, ())) = some (l.any fun p => !((kbB p).take A == (kbB (l.headD (Tree.val t))).take A)) := by
      intro l hne hl
      obtain ⟨p0, ps, rfl⟩ : ∃ p xs, l = p :: xs := by cases l with
       | nil => exact absurd rfl hne
       | cons p xs => exact ⟨p, xs, rfl⟩
      rw [contains_pair _ (fun x => !(match gq80 x.2.2 with | some s => (bytesL s).take A == ((bitsL (hV p0.1)).map bI).take A | none => false)) _ (by simp at hl ⊢; omega)]
      ·rw [List.any_map]
       congr 2
       funext p
       simp only [Function.comp, prB, List.headD_cons]
       rw [bits_eq _ (hV_bytes _) (hV_len _)]
       simp only
       rw [bytesL_strL (bI_bytes _), ← List.map_take, ← List.map_take]
       unfold kbB
       congr 1
       rw [Bool.eq_iff_iff, beq_iff_eq, beq_iff_eq, bI_inj]
      ·intro x hx
       obtain ⟨p, _, rfl⟩ := List.mem_map.1 hx
       simp only [prB, gq98, gq98.F, List.map_cons]
       rw [grd_of (gIx_t (by omega) (by simp)), show (0 : Int).toNat = 0 from rfl, rdE_at (k := kk27b) (by simp)]
       simp only [List.getElem_cons_zero]
       rw [sameAhead_eq _ _ (hV_bytes _) (hV_len _) (hV_bytes _) (hV_len _) A (by omega), bs, bs, bits_eq _ (hV_bytes _) (hV_len _)]
       simp only
       rw [bytesL_strL (bI_bytes _), ← List.map_take, ← List.map_take]
       congr 3
       rw [Bool.eq_iff_iff, beq_iff_eq, beq_iff_eq, bI_inj]
     have hgo : gdB (d + 1) fr t = (gdB d (A + 1) a).bind fun x => (gdB d (A + 1) b).bind fun y =>
       if (x.all fun p => !((kbB p).getD A false)) && (y.all fun p => (kbB p).getD A false) && ((x ++ y).all fun p => (kbB p).take A == (kbB ((x ++ y).headD (Tree.val t))).take A) then some (x ++ y) else none := by
      unfold gdB
      rw [gdT, hk]
      dsimp only
      rw [hat, if_pos (by
       simp only [Bool.and_eq_true, decide_eq_true_eq]
       exact ⟨⟨hfk, hfA⟩, by omega⟩)]
     rw [gq85.l1.eq_2]
     simp only [List.length_cons, List.length_nil]
     rw [decide_t (by omega), ct, grd_of (gIx_t (by omega) (by omega)), show (0 : Int).toNat = 0 from rfl, rdE_at (k := kk8eb) (by simp)]
     simp only [List.getElem_cons_zero]
     obtain ⟨ra, ea, ka⟩ := pairs_i d fu (A + 1) a room (by omega) (by omega) (by omega) hr0 hr
     rw [show (((A + 1 : Nat) : Int) - 1) = (A : Int) by omega] at ea
     rw [ea, bs]
     cases hra : ra.2.1 with
     | false =>
      rw [Bool.not_false, ct]
      refine ⟨_, rfl, PrOk.of_false rfl fun l hl => ?_⟩
      rw [hgo] at hl
      obtain ⟨x, hx, hl⟩ := Option.bind_eq_some_iff.1 hl
      obtain ⟨y, hy, hl⟩ := Option.bind_eq_some_iff.1 hl
      split at hl
      ·cases hl
       rw [hx] at ka
       unfold PrOk at ka
       simp only at ka
       split at ka
       ·rw [ka] at hra; cases hra
       ·simp; omega
      ·cases hl
     | true =>
      obtain ⟨x, hx, hxl, rfl⟩ := ka.true hra
      rw [Bool.not_true, cf]
      have hx40 : x.length ≤ 40 := by omega
      simp only
      rw [hside x 0 (by omega) (.inl rfl), bs]
      cases hax : (x.any fun p => (kbB p).getD A false != decide ((0 : Int) = 1)) with
      | true =>
       rw [ct]
       refine ⟨_, rfl, PrOk.of_false rfl fun l hl => ?_⟩
       exfalso
       rw [hgo, hx, bs] at hl
       obtain ⟨y, hy, hl⟩ := Option.bind_eq_some_iff.1 hl
       split at hl
       ·rename_i h1
        simp only [Bool.and_eq_true, List.all_eq_true, List.any_eq_true] at h1 hax
        obtain ⟨p, hp, hp2⟩ := hax
        have := h1.1.1 p hp
        simp_all
       ·cases hl
      | false =>
       rw [cf, grd_of (gRm_t (by simp; omega)), wr (x := 0 + 1) (by omega) (by omega)]
       rw [gq85.l1.eq_2]
       simp only [List.length_cons, List.length_nil]
       rw [decide_t (by omega), ct, grd_of (gIx_t (by omega) (by omega)), show (0 + 1 : Int).toNat = 1 from rfl, rdE_at (k := kk8eb) (by simp)]
       simp only [List.getElem_cons_succ, List.getElem_cons_zero]
       obtain ⟨rb, eb, kb⟩ := pairs_i d fu (A + 1) b (room - x.length) (by omega) (by omega) (by omega) (by omega) (by omega)
       rw [show (((A + 1 : Nat) : Int) - 1) = (A : Int) by omega] at eb
       rw [eb, bs]
       cases hrb : rb.2.1 with
       | false =>
        rw [Bool.not_false, ct]
        refine ⟨_, rfl, PrOk.of_false rfl fun l hl => ?_⟩
        rw [hgo, hx, bs] at hl
        obtain ⟨y, hy, hl⟩ := Option.bind_eq_some_iff.1 hl
        split at hl
        ·cases hl
         rw [hy] at kb
         unfold PrOk at kb
         simp only at kb
         split at kb
         ·rw [kb] at hrb; cases hrb
         ·simp; omega
        ·cases hl
       | true =>
        obtain ⟨y, hy, hyl, rfl⟩ := kb.true hrb
        rw [Bool.not_true, cf]
        simp only
        rw [show (0 + 1 : Int) = 1 from rfl, hside y 1 (by omega) (.inr rfl), bs]
        cases hay : (y.any fun p => (kbB p).getD A false != decide ((1 : Int) = 1)) with
        | true =>
         rw [ct]
         refine ⟨_, rfl, PrOk.of_false rfl fun l hl => ?_⟩
         exfalso
         rw [hgo, hx, bs, hy, bs] at hl
         split at hl
         ·rename_i h1
          simp only [Bool.and_eq_true, List.all_eq_true, List.any_eq_true] at h1 hay
          obtain ⟨p, hp, hp2⟩ := hay
          have := h1.1.2 p hp
          simp_all
         ·cases hl
        | false =>
         rw [cf, grd_of (gRm_t (by simp; omega)), wr (x := 1 + 1) (by omega) (by omega), gq85.l1.eq_2, decide_f (by omega), cf, List.nil_append, ← List.map_append]
         have hne : x ++ y ≠ [] := by have := gdT_ne hx; simp [this]
         rw [hsame (x ++ y) hne (by simp; omega), bs]
         refine ⟨_, rfl, ?_⟩
         rw [hgo, hx, bs, hy, bs]
         have e1 : (x.all fun p => !((kbB p).getD A false)) = true := by
          rw [List.all_eq_true]; intro p hp
          rw [List.any_eq_false] at hax
          have := hax p hp
          cases h : (kbB p).getD A false <;> simp_all
         have e2 : (y.all fun p => (kbB p).getD A false) = true := by
          rw [List.all_eq_true]; intro p hp
          rw [List.any_eq_false] at hay
          have := hay p hp
          cases h : (kbB p).getD A false <;> simp_all
         rw [e1, e2, Bool.true_and, Bool.true_and, any_not_all]
         cases hall : ((x ++ y).all fun p => (kbB p).take A == (kbB ((x ++ y).headD (Tree.val t))).take A) with
         | true =>
          rw [if_pos rfl]
          unfold PrOk
          simp only [List.length_append]
          rw [if_pos (by omega)]
          congr 2
          omega
         | false => exact rfl
end Go.Proofs.YtooijdhcaghdlaaA
namespace Go.Proofs.YtooijdhcaghdlaaA
open Go
set_option linter.unusedVariables false
set_option linter.unusedSimpArgs false
def kkB (v : VB) : Bool := isKeyB v.1
abbrev ctB (d fr : Nat) (pre : List Bool) (left : Nat) (t : Tree VB) : Option Nat := ctT lfB fkB atB kbB (ftT kkB 257) d fr pre left t
theorem ctT_bounds {V : Type} {lf fk : V → Bool} {at_ : V → Nat} {kb : V → List Bool} {first : Tree V → Option V} : ∀ (d fr : Nat) (t : Tree V) (pre : List Bool) (left n : Nat), ctT lf fk at_ kb first d fr pre left t = some n → 1 ≤ n ∧ n ≤ left
 | 0, _, _, _, _, _, h => by simp [ctT] at h
 | d + 1, fr, t, pre, left, n, h => by
  unfold ctT at h
  split at h
  ·cases h
  ·split at h
   ·split at h
    ·cases h; omega
    ·cases h
   ·split at h
    ·obtain ⟨f, _, h⟩ := Option.bind_eq_some_iff.1 h
     split at h
     ·obtain ⟨n1, h1, h⟩ := Option.bind_eq_some_iff.1 h
      obtain ⟨n2, h2, h⟩ := Option.bind_eq_some_iff.1 h
      have b1 := ctT_bounds _ _ _ _ _ _ h1
      have b2 := ctT_bounds _ _ _ _ _ _ h2
      cases h
      omega
     ·cases h
    ·cases h
   ·cases h
def dsc : Nat → Tree VB → Tree VB
 | 0, t => t
 | m + 1, t => match t.kids with
  | [] => t
  | a :: _ => dsc m a
theorem ftT_dsc : ∀ (m : Nat) (t : Tree VB), ftT kkB m t = if (decide ((dsc m t).kids.length = 0) && isKeyB (dsc m t).val.1) = true then some (dsc m t).val else none
 | 0, t => by
  unfold ftT dsc
  cases h : t.kids with
  | nil => simp [kkB]; rfl
  | cons a l => simp
 | m + 1, t => by
  cases h : t.kids with
  | nil =>
   have h1 : ftT kkB (m + 1) t = if kkB t.val then some t.val else none := by unfold ftT; rw [h]
   have h2 : dsc (m + 1) t = t := by unfold dsc; rw [h]
   rw [h1, h2, h]
   simp [kkB]; rfl
  | cons a l =>
   have h1 : ftT kkB (m + 1) t = ftT kkB m a := by rw [ftT, h]
   have h2 : dsc (m + 1) t = dsc m a := by rw [dsc, h]
   rw [h1, h2, ftT_dsc m a]
theorem mleaf_s (k v : ByteArray) (a : Int) (l : List (El kk8eb)) : gq65 k v a l = some (decide (l.length = 0)) := by
 unfold gq65 gq65.F
 congr 1
 rw [Bool.eq_iff_iff, beq_iff_eq, decide_eq_true_iff]
 omega
theorem first_s {R : Type} (rc : ByteArray → ByteArray → Int → List (El kk8eb) → Int → ByteArray → Int → Option Int) (kke : ByteArray → Int → ByteArray → ByteArray → Int → List (El kk8eb) → ByteArray → ByteArray → Int → List (El kk8eb) → Option R) (p : ByteArray) (left : Int) (b b1 : ByteArray) (b2 : Int) (b3 : List (El kk8eb)) :
  ∀ (m n i : Nat) (f : Tree VB), i + m = 256 → m < n → gq62.l1 rc kke n p left (i : Int) b b1 b2 b3 f.val.1 f.val.2.1 f.val.2.2 f.kids = kke p left b b1 b2 b3 (dsc m f).val.1 (dsc m f).val.2.1 (dsc m f).val.2.2 (dsc m f).kids
 | 0, n + 1, i, f, e, _ => by
  rw [gq62.l1.eq_2, decide_f (by omega), cf]
  rfl
 | m + 1, n + 1, i, f, e, hn => by
  rw [gq62.l1.eq_2, decide_t (by omega), ct, mleaf_s, bs]
  cases h : f.kids with
  | nil =>
   have h2 : dsc (m + 1) f = f := by unfold dsc; rw [h]
   rw [h2, h]
   simp
  | cons a l =>
   have h2 : dsc (m + 1) f = dsc m a := by rw [dsc, h]
   rw [h2, decide_f (by simp), Bool.not_false, ct, grd_of (gIx_t (by omega) (by simp)), show (0 : Int).toNat = 0 from rfl, rdE_at (k := kk8eb) (by simp)]
   simp only [List.getElem_cons_zero]
   rw [wr (by omega) (by omega), show (i : Int) + 1 = ((i + 1 : Nat) : Int) by omega]
   exact first_s rc kke p left b b1 b2 b3 m n (i + 1) a (by omega) (by omega)
theorem hash_key (k : ByteArray) (h : isKeyB k = true) : gq81 k = some (strL (hV k)) := by
 unfold gq81 gq81.F
 rw [hash_s _ (IsBytes.bytesL _) (by
  unfold isKeyB at h
  simp at h
  rw [bytesL_length]; omega), bs]
 rfl
theorem cutBits (l : List Bool) (n : Nat) : cut (strL (l.map bI)) 0 (n : Int) = strL ((l.take n).map bI) := by
 rw [cut_strL, sub_take, Int.toNat_natCast, List.map_take]
theorem sEqBits (l m : List Bool) : sEq (strL (l.map bI)) (strL (m.map bI)) = (l == m) := by
 rw [sEq_strL (bI_bytes _) (bI_bytes _), Bool.eq_iff_iff, decide_eq_true_iff, beq_iff_eq, bI_inj]
def ctI (o : Option Nat) : Int := match o with
 | some n => n
 | none => -1
theorem count_s : ∀ (d fu fr : Nat) (t : Tree VB) (pre : List Bool) (left : Nat), d < fu → 257 ≤ d + fr → fr ≤ 256 → pre.length = fr → left ≤ 1000 →
  gq62 fu t.val.1 t.val.2.1 t.val.2.2 t.kids (fr : Int) (strL (pre.map bI)) (left : Int) = some (ctI (ctB d fr pre left t))
 | 0, _, fr, _, _, _, _, h, h', _, _ => by omega
 | d + 1, fu + 1, fr, t, pre, left, hf, hd, hfr, hp, hl => by
  simp only [gq62, gq62.F]
  unfold ctB ctT
  by_cases h1 : left < 1
  ·rw [decide_t (by omega), ct, if_pos h1]; rfl
  rw [decide_f (by omega), cf, if_neg h1, mleaf_s, bs]
  cases hk : t.kids with
  | nil =>
   rw [decide_t (show ([] : List (El kk8eb)).length = 0 from rfl), ct, l02Key_eq, bs]
   have hlf : lfB t.val = (decide (t.val.2.2 = 256) && isKeyB t.val.1 && decide (t.val.2.1.size ≤ 60)) := rfl
   dsimp only
   rw [hlf]
   cases hky : isKeyB t.val.1 with
   | false => rw [Bool.not_false, ct, if_neg (by simp)]; rfl
   | true =>
    rw [Bool.not_true, cf]
    by_cases h2 : t.val.2.1.size ≤ 60
    ·rw [decide_f (by omega), cf, decide_t h2]
     by_cases h3 : t.val.2.2 = 256
     ·rw [show (t.val.2.2 != 256) = false by simp [h3], cf, decide_t h3, hash_key _ hky, bs, bits_eq _ (hV_bytes _) (hV_len _), bs,
       grd_of (gSl_t (by omega) (by omega) (by simp [strL_size, bitsL_len, hp]; omega)), strL_size, List.length_map, cutBits, sEqBits]
      simp only [Bool.true_and]
      show cond (!((kbB t.val).take pre.length == pre)) _ _ = _
      cases (kbB t.val).take pre.length == pre <;> rfl
     ·rw [show (t.val.2.2 != 256) = true by simp [h3], ct, decide_f h3, if_neg (by simp)]; rfl
    ·rw [decide_t (by omega), ct, decide_f h2, if_neg (by simp)]; rfl
  | cons a l =>
   rw [decide_f (by simp), cf]
   match l, hk with
   | [], hk =>
    rw [show ((List.length [a] : Int) != 2) = true from rfl, ct]; rfl
   | b :: c :: l, hk =>
    rw [show ((List.length (a :: b :: c :: l) : Int) != 2) = true by simp; omega, ct]; rfl
   | [b], hk =>
    rw [show ((List.length [a, b] : Int) != 2) = false from rfl, cf]
    dsimp only
    have hfk : fkB t.val = (sEq t.val.1 ByteArray.empty && sEq t.val.2.1 ByteArray.empty && decide (0 ≤ t.val.2.2)) := rfl
    rw [hfk]
    cases hk1 : sEq t.val.1 ByteArray.empty with
    | false => rw [Bool.not_false, ct, if_neg (by simp)]; rfl
    | true =>
    cases hk2 : sEq t.val.2.1 ByteArray.empty with
    | false => rw [Bool.not_true, cf, Bool.not_false, ct, if_neg (by simp)]; rfl
    | true =>
    rw [Bool.not_true, cf, cf, l01In_eq, bs]
    by_cases hin : (fr : Int) ≤ t.val.2.2 ∧ t.val.2.2 ≤ 255
    ·obtain ⟨A, hA⟩ : ∃ A : Nat, t.val.2.2 = A := ⟨t.val.2.2.toNat, by omega⟩
     have hat : atB t.val = A := by unfold atB; omega
     rw [decide_t hin.1, decide_t hin.2, Bool.and_self, Bool.not_true, cf, grd_of (gIx_t (by omega) (by simp)), show (0 : Int).toNat = 0 from rfl, rdE_at (k := kk8eb) (by simp)]
     simp only [List.getElem_cons_zero]
     rw [hat, if_pos (by simp; omega)]
     have hfs := first_s (gq62 fu) (fun prefix_1 left1 b b1 b2 b3 f f1 f2 f3 =>
        (gq65 f f1 f2 f3).bind fun r5 =>
        cond (!r5) (some (-1 : Int)) (
         (gq79 f).bind fun r6 =>
         cond (!r6) (some (-1 : Int)) (
          (gq81 f).bind fun r7 =>
          (gq80 r7).bind fun r8 =>
          grd (gSl (0 : Int) b2 (ByteArray.size r8)) <|
          cond (decide ((ByteArray.size prefix_1 : Int) > (ByteArray.size (cut r8 (0 : Int) b2) : Int))) (some (-1 : Int)) (
           grd (gSl (0 : Int) (ByteArray.size prefix_1 : Int) (ByteArray.size (cut r8 (0 : Int) b2))) <|
           cond (!(sEq (cut (cut r8 (0 : Int) b2) (0 : Int) (ByteArray.size prefix_1 : Int)) prefix_1)) (some (-1 : Int)) (
            gq62.l2 (gq62 fu) (fun n_ => some n_) (fun i => some i) fuel left1 (cut r8 (0 : Int) b2) (0 : Int) (0 : Int) b b1 b2 b3))))) (strL (pre.map bI)) (left : Int) t.val.1 t.val.2.1 t.val.2.2 [a, b] 256 fuel 0 a rfl (fuel_big (by omega))
     rw [Int.natCast_zero] at hfs
     rw [hfs, mleaf_s, bs]
     have hft : ftT kkB 257 t = ftT kkB 256 a := by rw [ftT, hk]
     rw [hft, ftT_dsc]
     generalize dsc 256 a = g
     cases hg1 : decide (g.kids.length = 0) with
     | false => rw [Bool.not_false, ct, if_neg (by simp)]; rfl
     | true =>
     rw [Bool.not_true, cf, l02Key_eq, bs]
     cases hg2 : isKeyB g.val.1 with
     | false => rw [Bool.not_false, ct, if_neg (by simp)]; rfl
     | true =>
     rw [Bool.not_true, cf, hash_key _ hg2, bs, bits_eq _ (hV_bytes _) (hV_len _), bs, hA, grd_of (gSl_t (by omega) (by omega) (by rw [strL_size]; simp [bitsL_len]; omega)), cutBits, if_pos (by simp), bs]
     have hlA : ((bitsL (hV g.val.1)).take A).length = A := by simp [bitsL_len]; omega
     have hpA : pre.length ≤ A := by omega
     rw [decide_f (by rw [strL_size, strL_size, List.length_map, List.length_map, hlA]; omega), cf, grd_of (gSl_t (by omega) (by omega) (by rw [strL_size, strL_size, List.length_map, List.length_map, hlA]; omega)), strL_size, List.length_map, cutBits, sEqBits, decide_t hpA, Bool.true_and]
     show cond (!(((kbB g.val).take A).take pre.length == pre)) _ _ = _
     cases hpre : ((kbB g.val).take A).take pre.length == pre with
     | false => rw [Bool.not_false, ct, if_neg (by simp)]; rfl
     | true =>
     rw [Bool.not_true, cf, if_pos rfl]
     obtain ⟨q, hq⟩ : ∃ q, fuel = q + 1 + 1 + 1 := by
      obtain ⟨m, h⟩ := fuel_gt (n := 2) (by omega)
      exact ⟨m, by omega⟩
     rw [hq, gq62.l2.eq_2, decide_t (by omega), ct, grd_of (gIx_t (by omega) (by simp)), show (0 : Int).toNat = 0 from rfl, rdE_at (k := kk8eb) (by simp)]
     simp only [List.getElem_cons_zero]
     have hc0 : strL [IntKind.wrap .u8 ((48 : Int) + (IntKind.wrap .u8 0))] = strL (([false] : List Bool).map bI) := rfl
     have hc1 : strL [IntKind.wrap .u8 ((48 : Int) + (IntKind.wrap .u8 1))] = strL (([true] : List Bool).map bI) := rfl
     rw [hc0, grd_of (gCat_t (by rw [strL_size, strL_size]; simp [bitsL_len]; omega)), strL_append, ← List.map_append, wr (x := (A : Int) + 1) (by omega) (by omega), wr (x := (left : Int) - 0) (by omega) (by omega), show (A : Int) + 1 = ((A + 1 : Nat) : Int) by omega, Int.sub_zero]
     have ea := count_s d fu (A + 1) a ((kbB g.val).take A ++ [false]) left (by omega) (by omega) (by omega) (by simp [kbB, bitsL_len]; omega) hl
     unfold kbB at ea
     rw [ea, bs]
     cases hca : ctB d (A + 1) ((bitsL (hV g.val.1)).take A ++ [false]) left a with
     | none =>
      rw [decide_t (by decide), ct]
      show _ = some (ctI (Option.bind (ctB d (A + 1) ((bitsL (hV g.val.1)).take A ++ [false]) left a) _))
      rw [hca]; rfl
     | some n1 =>
      have hb1 := ctT_bounds _ _ _ _ _ _ hca
      show cond (decide (((n1 : Nat) : Int) < 0)) _ (gq62.l2 _ _ _ _ _ _ (IntKind.wrap .i64 ((0 : Int) + (n1 : Nat))) _ _ _ _ _) = some (ctI (Option.bind (ctB d (A + 1) ((bitsL (hV g.val.1)).take A ++ [false]) left a) _))
      rw [hca, bs, decide_f (by omega), cf, wr (x := (0 : Int) + (n1 : Nat)) (by omega) (by omega), wr (x := (0 : Int) + 1) (by omega) (by omega), gq62.l2.eq_2, decide_t (by omega), ct, grd_of (gIx_t (by omega) (by simp)), show (0 + 1 : Int).toNat = 1 from rfl, rdE_at (k := kk8eb) (by simp)]
      simp only [List.getElem_cons_succ, List.getElem_cons_zero, Int.zero_add]
      rw [hc1, grd_of (gCat_t (by rw [strL_size, strL_size]; simp [bitsL_len]; omega)), strL_append, ← List.map_append, wr (x := (A : Int) + 1) (by omega) (by omega), wr (x := (left : Int) - (n1 : Nat)) (by omega) (by omega), show (A : Int) + 1 = ((A + 1 : Nat) : Int) by omega, show (left : Int) - (n1 : Nat) = ((left - n1 : Nat) : Int) by omega]
      have eb := count_s d fu (A + 1) b ((kbB g.val).take A ++ [true]) (left - n1) (by omega) (by omega) (by omega) (by simp [kbB, bitsL_len]; omega) (by omega)
      unfold kbB at eb
      rw [eb, bs]
      cases hcb : ctB d (A + 1) ((bitsL (hV g.val.1)).take A ++ [true]) (left - n1) b with
      | none =>
       rw [decide_t (by decide), ct]
       show _ = some (ctI (Option.bind (ctB d (A + 1) ((bitsL (hV g.val.1)).take A ++ [true]) (left - n1) b) _))
       rw [hcb]; rfl
      | some n2 =>
       have hb2 := ctT_bounds _ _ _ _ _ _ hcb
       show cond (decide (((n2 : Nat) : Int) < 0)) _ (gq62.l2 _ _ _ _ _ _ (IntKind.wrap .i64 ((n1 : Int) + (n2 : Nat))) _ _ _ _ _) = some (ctI (Option.bind (ctB d (A + 1) ((bitsL (hV g.val.1)).take A ++ [true]) (left - n1) b) _))
       rw [hcb, bs, decide_f (by omega), cf, wr (x := (n1 : Int) + (n2 : Nat)) (by omega) (by omega), wr (x := (1 : Int) + 1) (by omega) (by omega), gq62.l2.eq_2, decide_f (by omega), cf]
       simp [ctI]
    ·rw [show (decide ((fr : Int) ≤ t.val.2.2) && decide (t.val.2.2 ≤ 255)) = false by simp; omega, Bool.not_false, ct, if_neg (by
      have hat : atB t.val = t.val.2.2.toNat := rfl
      rw [hat]; simp; omega)]
     rfl
end Go.Proofs.YtooijdhcaghdlaaA
namespace Go.Proofs.YtooijdhcaghdlaaA
open Go
set_option linter.unusedVariables false
set_option linter.unusedSimpArgs false
def emptyB (t : Tree VB) : Bool := sEq t.val.1 ByteArray.empty && sEq t.val.2.1 ByteArray.empty && (t.val.2.2 == 0) && decide (t.kids.length = 0)
theorem empty_i (t : Tree VB) : gq75 t.val.1 t.val.2.1 t.val.2.2 t.kids = some (emptyB t) := by
 unfold gq75 gq75.F emptyB
 rw [show ((t.kids.length : Int) == 0) = decide (t.kids.length = 0) by rw [Bool.eq_iff_iff, beq_iff_eq, decide_eq_true_iff]; omega]
 cases sEq t.val.1 ByteArray.empty <;> cases sEq t.val.2.1 ByteArray.empty <;> cases t.val.2.2 == 0 <;> simp
theorem empty_s (t : Tree VB) : gq61 t.val.1 t.val.2.1 t.val.2.2 t.kids = some (emptyB t) := by
 unfold gq61 gq61.F emptyB
 rw [show ((t.kids.length : Int) == 0) = decide (t.kids.length = 0) by rw [Bool.eq_iff_iff, beq_iff_eq, decide_eq_true_iff]; omega]
 cases sEq t.val.1 ByteArray.empty <;> cases sEq t.val.2.1 ByteArray.empty <;> cases t.val.2.2 == 0 <;> simp
def mapV (t : Tree VB) : Bool := emptyB t || match gdB 257 0 t with
 | some l => decide (l.length ≤ 40)
 | none => false
theorem mapOK_i (t : Tree VB) : gq50 t.val.1 t.val.2.1 t.val.2.2 t.kids = some (mapV t) := by
 unfold gq50 gq50.F gq71 gq71.F mapV
 rw [empty_i, bs]
 cases emptyB t with
 | true => rfl
 | false =>
  obtain ⟨r, e, h⟩ := pairs_i 257 fuel 0 t 40 (fuel_big (by omega)) (by omega) (by omega) (by omega) (by omega)
  rw [cf, show (-1 : Int) = ((0 : Nat) : Int) - 1 from rfl, e, bs, bs]
  congr 1
  unfold PrOk at h
  split at h
  ·rename_i l hg
   try rw [hg]
   simp only [Bool.false_or]
   split at h
   ·rw [h, decide_t (by omega)]
   ·rw [h, decide_f (by omega)]
  ·rename_i hg
   try rw [hg]
   show r.2.1 = _
   rw [h]
   rfl
theorem mapOK_s (t : Tree VB) : gq44 t.val.1 t.val.2.1 t.val.2.2 t.kids = some (mapV t) := by
 unfold gq44 gq44.F mapV
 rw [empty_s, bs]
 cases emptyB t with
 | true => rfl
 | false =>
  have e := count_s 257 fuel 0 t [] 40 (fuel_big (by omega)) (by omega) (by omega) rfl (by omega)
  rw [cf, show ByteArray.empty = strL (([] : List Bool).map bI) from rfl, show (0 : Int) = ((0 : Nat) : Int) from rfl, show (40 : Int) = ((40 : Nat) : Int) from rfl, e, bs]
  have h := ctT_eq (lf := lfB) (fk := fkB) (at_ := atB) (kk := kkB) (kb := kbB) (fun v => bitsL_len _) (fun v hv => by
   unfold lfB at hv
   simp only [Bool.and_eq_true] at hv
   exact hv.1.2) 257 (by omega) 257 t 40
  unfold ctB
  rw [h]
  congr 1
  unfold gdB
  cases hg : gdT lfB fkB atB kbB 257 0 t with
  | none => rfl
  | some l =>
   have hne := gdT_ne hg
   rw [bs]
   simp only [Bool.false_or]
   have : 1 ≤ l.length := by cases l with
    | nil => exact absurd rfl hne
    | cons a b => simp
   by_cases hl : l.length ≤ 40
   ·rw [if_pos hl, decide_t hl]
    unfold ctI
    simp only
    rw [decide_t (by omega)]
   ·rw [if_neg hl, decide_f hl]
    rfl
def leafRV (k v : ByteArray) : ByteArray := strL (sha ((0 :: (k.size : Int) :: bytesL k) ++ bytesL v))
def forkRV (a : Int) (x y : ByteArray) : ByteArray := strL (sha ((1 :: a :: bytesL x) ++ bytesL y))
def rootB : Nat → Tree VB → ByteArray
 | 0, _ => ByteArray.empty
 | d + 1, t => match t.kids with
  | [a, b] => forkRV t.val.2.2 (rootB d a) (rootB d b)
  | _ => leafRV t.val.1 t.val.2.1
theorem leafRoot_i (k v : ByteArray) (hk : k.size ≤ 24) (hv : v.size ≤ 60) : gq76 k v = some (leafRV k v) := by
 unfold gq76 gq76.F gq91 gq91.F
 have hb : beL (k.size : Int) 1 = [(k.size : Int)] := by
  simp [beL]; omega
 have e1 : strL [(k.size : Int)] ++ k = strL ((k.size : Int) :: bytesL k) := by
  conv => lhs; rw [← strL_bytesL k]
  rw [strL_append, strL_bytesL]; rfl
 have e2 : (⟨#[0]⟩ : ByteArray) = strL [0] := rfl
 have hbk := IsBytes.bytesL k
 have hbv := IsBytes.bytesL v
 have e3 : strL (0 :: (k.size : Int) :: bytesL k) ++ v = strL ((0 :: (k.size : Int) :: bytesL k) ++ bytesL v) := by
  conv => lhs; rw [← strL_bytesL v]
  rw [strL_append]
 rw [show gq87 (k.size : Int) 1 = some (strL (beL (k.size : Int) 1)) from number_eq _ 1 (by omega), bs, hb, grd_of (gCat_t (by rw [strL_size]; simp; omega)), bs, e1, e2, grd_of (gCat_t (by rw [strL_size, strL_size]; simp [bytesL_length]; omega)), strL_append, grd_of (gCat_t (by rw [strL_size]; simp [bytesL_length]; omega))]
 show (i_hash (strL (0 :: (k.size : Int) :: bytesL k) ++ v)).bind _ = _
 rw [e3, hash_i _ (IsBytes.append (IsBytes.cons (by decide) (by decide) (IsBytes.cons (by omega) (by omega) hbk)) hbv) (by simp [bytesL_length]; omega), bs]
 rfl
theorem leafRoot_s (k v : ByteArray) (hk : k.size ≤ 24) (hv : v.size ≤ 60) : gq66 k v = some (leafRV k v) := by
 unfold gq66 gq66.F
 rw [wr8 (by omega) (by omega), grd_of (gRm_t (by simp [bytesL_length]; omega)), grd_of (gRm_t (by simp [bytesL_length]; omega))]
 rw [hash_s _ (IsBytes.append (IsBytes.append (IsBytes.cons (by decide) (by decide) (IsBytes.cons (by omega) (by omega) IsBytes.nil)) (IsBytes.bytesL k)) (IsBytes.bytesL v)) (by simp [bytesL_length]; omega), bs]
 rfl
theorem forkRoot_i (a : Int) (x y : ByteArray) (h0 : 0 ≤ a) (h1 : a ≤ 255) (hx : x.size = 32) (hy : y.size = 32) : gq77 a x y = some (forkRV a x y) := by
 unfold gq77 gq77.F
 have hb : beL a 1 = [a] := by
  simp [beL]; omega
 have e2 : (⟨#[1]⟩ : ByteArray) = strL [1] := rfl
 have e1 : strL [1, a] ++ x = strL (1 :: a :: bytesL x) := by
  conv => lhs; rw [← strL_bytesL x]
  rw [strL_append]; rfl
 have e3 : strL (1 :: a :: bytesL x) ++ y = strL ((1 :: a :: bytesL x) ++ bytesL y) := by
  conv => lhs; rw [← strL_bytesL y]
  rw [strL_append]
 rw [show gq87 a 1 = some (strL (beL a 1)) from number_eq _ 1 (by omega), bs, hb, e2, grd_of (gCat_t (by rw [strL_size, strL_size]; simp)), strL_append, grd_of (gCat_t (by rw [strL_size]; simp; omega))]
 show grd (gCat (strL [1, a] ++ x) y) _ = _
 rw [e1, grd_of (gCat_t (by rw [strL_size]; simp [bytesL_length]; omega))]
 show (i_hash ((strL [1, a] ++ x) ++ y)).bind _ = _
 rw [e1, e3, hash_i _ (IsBytes.append (IsBytes.cons (by decide) (by decide) (IsBytes.cons (by omega) (by omega) (IsBytes.bytesL x))) (IsBytes.bytesL y)) (by simp [bytesL_length]; omega), bs]
 rfl
theorem forkRoot_s (a : Int) (x y : ByteArray) (h0 : 0 ≤ a) (h1 : a ≤ 255) (hx : x.size = 32) (hy : y.size = 32) : gq67 a x y = some (forkRV a x y) := by
 unfold gq67 gq67.F
 rw [wr8 (by omega) (by omega), grd_of (gRm_t (by simp [bytesL_length]; omega)), grd_of (gRm_t (by simp [bytesL_length]; omega))]
 rw [hash_s _ (IsBytes.append (IsBytes.append (IsBytes.cons (by decide) (by decide) (IsBytes.cons (by omega) (by omega) IsBytes.nil)) (IsBytes.bytesL x)) (IsBytes.bytesL y)) (by simp [bytesL_length]; omega), bs]
 rfl
theorem root_eq : ∀ (d fu fr : Nat) (t : Tree VB) (l : List VB), gdB d fr t = some l → d ≤ fu →
  gq54 fu t.val.1 t.val.2.1 t.val.2.2 t.kids = some (rootB d t) ∧ gq46 fu t.val.1 t.val.2.1 t.val.2.2 t.kids = some (rootB d t) ∧ (rootB d t).size = 32
 | 0, _, _, _, _, h, _ => by simp [gdB, gdT] at h
 | d + 1, fu + 1, fr, t, l, h, hf => by
  simp only [gq54, gq54.F, gq46, gq46.F]
  rw [empty_i, empty_s, bs, bs]
  unfold gdB gdT at h
  split at h
  ·rename_i hk
   split at h
   ·rename_i hlf
    have hlf' : (decide (t.val.2.2 = 256) && isKeyB t.val.1 && decide (t.val.2.1.size ≤ 60)) = true := hlf
    simp only [Bool.and_eq_true, decide_eq_true_eq] at hlf'
    obtain ⟨⟨ha, hky⟩, hv⟩ := hlf'
    unfold isKeyB at hky
    simp only [Bool.and_eq_true, decide_eq_true_eq] at hky
    have he : emptyB t = false := by
     unfold emptyB
     rw [show (t.val.2.2 == 0) = false by rw [ha]; rfl]
     simp
    have hr : rootB (d + 1) t = leafRV t.val.1 t.val.2.1 := by rw [rootB, hk]
    rw [he, cf, cf, show (t.val.2.2 == 256) = true by rw [ha]; rfl, ct, leafRoot_i _ _ hky.2 hv, bs, mleaf_s, bs, hk, decide_t (show ([] : List (El kk8eb)).length = 0 from rfl), ct, leafRoot_s _ _ hky.2 hv, bs, hr]
    exact ⟨rfl, rfl, by rw [leafRV, strL_size, sha_len]⟩
   ·cases h
  ·rename_i a b hk
   split at h
   ·rename_i hc
    obtain ⟨x, hx, h⟩ := Option.bind_eq_some_iff.1 h
    obtain ⟨y, hy, h⟩ := Option.bind_eq_some_iff.1 h
    simp only [Bool.and_eq_true, decide_eq_true_eq] at hc
    have hfk : (sEq t.val.1 ByteArray.empty && sEq t.val.2.1 ByteArray.empty && decide (0 ≤ t.val.2.2)) = true := hc.1.1
    simp only [Bool.and_eq_true, decide_eq_true_eq] at hfk
    have hat : t.val.2.2 ≤ 255 := by
     have := hc.2
     unfold atB at this
     omega
    obtain ⟨i1, s1, z1⟩ := root_eq d fu _ a x hx (by omega)
    obtain ⟨i2, s2, z2⟩ := root_eq d fu _ b y hy (by omega)
    have he : emptyB t = false := by
     unfold emptyB
     rw [hk, decide_f (by simp), Bool.and_false]
    have hr : rootB (d + 1) t = forkRV t.val.2.2 (rootB d a) (rootB d b) := by rw [rootB, hk]
    rw [he, cf, cf, show (t.val.2.2 == 256) = false by rw [beq_eq_false_iff_ne]; omega, cf, mleaf_s, bs, hk, decide_f (by simp), cf, hr]
    rw [grd_of (gIx_t (by omega) (by simp)), grd_of (gIx_t (by omega) (by simp)), show (0 : Int).toNat = 0 from rfl, rdE_at (k := kk8eb) (by simp)]
    simp only [List.getElem_cons_zero]
    rw [i1, s1, bs, bs, grd_of (gIx_t (by omega) (by simp)), grd_of (gIx_t (by omega) (by simp)), show (1 : Int).toNat = 1 from rfl, rdE_at (k := kk8eb) (by simp)]
    simp only [List.getElem_cons_succ, List.getElem_cons_zero]
    rw [i2, s2, bs, bs, forkRoot_i _ _ _ hfk.2 hat z1 z2, forkRoot_s _ _ _ hfk.2 hat z1 z2, bs]
    exact ⟨rfl, rfl, by rw [forkRV, strL_size, sha_len]⟩
   ·cases h
  ·cases h
theorem mapRoot_eq (t : Tree VB) (h : mapV t = true) : ∃ v, gq54 fuel t.val.1 t.val.2.1 t.val.2.2 t.kids = some v ∧ gq46 fuel t.val.1 t.val.2.1 t.val.2.2 t.kids = some v ∧ v.size = 32 := by
 unfold mapV at h
 cases he : emptyB t with
 | true =>
  obtain ⟨q, hq⟩ : ∃ q, fuel = q + 1 := ⟨fuel - 1, by rw [fuel_eq]⟩
  rw [hq]
  simp only [gq54, gq54.F, gq46, gq46.F]
  have hb : IsBytes [2] := IsBytes.cons (by decide) (by decide) IsBytes.nil
  rw [empty_i, empty_s, bs, bs, he, ct, ct, show (⟨#[2]⟩ : ByteArray) = strL [2] from rfl, hash_i _ hb (by simp), hash_s _ hb (by simp)]
  exact ⟨_, rfl, rfl, by rw [strL_size, sha_len]⟩
 | false =>
  rw [he, Bool.false_or] at h
  split at h
  ·rename_i l hg
   obtain ⟨h1, h2, h3⟩ := root_eq 257 fuel 0 t l hg (Nat.le_of_lt (fuel_big (by omega)))
   exact ⟨_, h1, h2, h3⟩
  ·cases h
theorem treeHash_eq : ∀ (m fu : Nat) (l : List ByteArray), l.length ≤ m → m < fu → m ≤ 1000 → (∀ s ∈ l, s.size = 32) → ∃ v, gq53 fu l = some v ∧ gq45 fu l = some v ∧ v.size = 32
 | m, 0, _, _, h, _, _ => by omega
 | m, fu + 1, l, h, hf, hm, ha => by
  simp only [gq53, gq53.F, gq45, gq45.F]
  by_cases h0 : l.length = 0
  ·rw [show ((l.length : Int) == 0) = true by simp [h0], ct, ct, show ByteArray.empty = strL [] from rfl, hash_i _ IsBytes.nil (by simp), hash_s _ IsBytes.nil (by simp), bs]
   exact ⟨_, rfl, rfl, by rw [strL_size, sha_len]⟩
  rw [show ((l.length : Int) == 0) = false by rw [beq_eq_false_iff_ne]; omega, cf, cf]
  by_cases h2 : l.length = 1
  ·rw [show ((l.length : Int) == 1) = true by simp [h2], ct, ct, grd_of (gIx_t (by decide) (by omega)), show (0 : Int).toNat = 0 from rfl, rdE_at (k := .str) (show 0 < List.length (α := ByteArray) l by omega)]
   exact ⟨_, rfl, rfl, ha _ (List.getElem_mem _)⟩
  ·obtain ⟨e0, e1, e3, e4⟩ := half_eq (l.length : Int) (by omega) (by omega)
   have l1 := sub_length l (a := 0) (b := half (l.length : Int)) (by decide) (by omega) (by omega)
   have l2 := sub_length l (a := half (l.length : Int)) (b := (l.length : Int)) (by omega) (by omega) (by omega)
   have hs : ∀ a b, ∀ s ∈ sub l a b, s.size = 32 := fun a b s hs => ha s (List.mem_of_mem_take (List.mem_of_mem_drop hs))
   obtain ⟨v1, f1, g1, k1⟩ := treeHash_eq (m - 1) fu (sub l 0 (half (l.length : Int))) (by omega) (by omega) (by omega) (hs _ _)
   obtain ⟨v2, f2, g2, k2⟩ := treeHash_eq (m - 1) fu (sub l (half (l.length : Int)) (l.length : Int)) (by omega) (by omega) (by omega) (hs _ _)
   rw [show ((l.length : Int) == 1) = false by rw [beq_eq_false_iff_ne]; omega, cf, cf, e0, e1, bs, bs, grd_of (gSl_t (by decide) (by omega) (by omega)), grd_of (gSl_t (by decide) (by omega) (by omega)), f1, g1, bs, bs, grd_of (gSl_t (by omega) (by omega) (by omega)), grd_of (gSl_t (by omega) (by omega) (by omega)), f2, g2, bs, bs, nodeHash_i _ _ (by omega) (by omega), node_s _ _ (by omega) (by omega), bs]
   exact ⟨_, rfl, rfl, nodeV_size _ _⟩
def sOK (s : El kkb2) : Bool := inShort s.1 && inShort s.2.1 && (decide (0 ≤ s.2.2.1) && decide (s.2.2.1 ≤ 6) && (decide (0 ≤ s.2.2.2.1) && decide (s.2.2.2.1 ≤ 50) && decide (ByteArray.size s.2.2.2.2 ≤ 60)))
def okAt (l : List (El kkb2)) (j : Nat) : Bool := sOK (rdE kkb2 l j) && (decide (j = 0) || decide ((rdE kkb2 l (j - 1)).1 < (rdE kkb2 l j).1))
def okFrom (l : List (El kkb2)) : Nat → Nat → Bool
 | 0, _ => true
 | m + 1, j => okAt l j && okFrom l m (j + 1)
theorem reply_i (k p : Int) (v : ByteArray) : gq52 k p v = some (decide (0 ≤ k) && decide (k ≤ 6) && (decide (0 ≤ p) && decide (p ≤ 50) && decide (v.size ≤ 60))) := by
 unfold gq52 gq52.F
 rw [within_eq, bs, within_eq, bs, isValue_eq, bs]
 cases decide (0 ≤ k) && decide (k ≤ 6) <;> cases decide (0 ≤ p) && decide (p ≤ 50) <;> cases decide (v.size ≤ 60) <;> rfl
theorem ses_i (l : List (El kkb2)) (hl : l.length ≤ 8) (a : List ByteArray) (b c : ByteArray) (d : Int) (e : List (El kk8eb)) : ∀ (m n j : Nat), j + m = l.length → m < n →
  gq28.l1 (some true) (fun b => some b) n l (l.length : Int) (j : Int) a b c d e l = some (okFrom l m j)
 | 0, n + 1, j, h, _ => by
  rw [gq28.l1.eq_2, decide_f (by omega), cf]; rfl
 | m + 1, n + 1, j, h, hn => by
  have ih := ses_i l hl a b c d e m n (j + 1) (by omega) (by omega)
  rw [gq28.l1.eq_2, decide_t (by omega), ct, grd_of (gIx_t (by omega) (by omega)), Int.toNat_natCast, isShort_eq, isShort_eq, reply_i, bs, bs, bs]
  unfold okFrom okAt sOK
  rw [wr (x := (j : Int) + 1) (by omega) (by omega), wr (x := (j : Int) - 1) (by omega) (by omega), show (j : Int) + 1 = ((j + 1 : Nat) : Int) by omega, ih, show ((j : Int) - 1).toNat = j - 1 by omega]
  generalize rdE kkb2 l j = s
  generalize rdE kkb2 l (j - 1) = p
  generalize okFrom l m (j + 1) = z
  cases inShort s.1 with
  | false => rfl
  | true =>
  cases inShort s.2.1 with
  | false => rfl
  | true =>
  cases (decide (0 ≤ s.2.2.1) && decide (s.2.2.1 ≤ 6) && (decide (0 ≤ s.2.2.2.1) && decide (s.2.2.2.1 ≤ 50) && decide (ByteArray.size s.2.2.2.2 ≤ 60))) with
  | false => rfl
  | true =>
  simp only [Bool.not_true, cf, Bool.true_and, Bool.and_self]
  by_cases hj : j = 0
  ·rw [decide_f (show ¬ ((j : Int) > 0) by omega), cf, decide_t hj]; rfl
  ·rw [decide_t (show (j : Int) > 0 by omega), ct, decide_f hj, grd_of (gIx_t (by omega) (by omega)), Bool.false_or]
   by_cases hp : p.1 < s.1
   ·rw [decide_f (show ¬ (p.1 ≥ s.1) from Int.not_le.2 hp), cf, decide_t hp]; rfl
   ·rw [decide_t (show p.1 ≥ s.1 from Int.not_lt.1 hp), ct, decide_f hp]; rfl
theorem ses_s (l : List (El kkb2)) (hl : l.length ≤ 8) (a : List ByteArray) (b c : ByteArray) (d : Int) (e : List (El kk8eb)) : ∀ (m n j : Nat), j + m = l.length → m < n →
  gq23.l1 (some true) (fun b => some b) n (j : Int) a b c d e l = some (okFrom l m j)
 | 0, n + 1, j, h, _ => by
  rw [gq23.l1.eq_2, decide_f (by omega), cf]; rfl
 | m + 1, n + 1, j, h, hn => by
  have ih := ses_s l hl a b c d e m n (j + 1) (by omega) (by omega)
  rw [gq23.l1.eq_2, decide_t (by omega), ct, grd_of (gIx_t (by omega) (by omega)), Int.toNat_natCast]
  simp only [l01In_eq, bs]
  unfold okFrom okAt sOK inShort
  rw [wr (x := (j : Int) + 1) (by omega) (by omega), wr (x := (j : Int) - 1) (by omega) (by omega), show (j : Int) + 1 = ((j + 1 : Nat) : Int) by omega, ih, show ((j : Int) - 1).toNat = j - 1 by omega]
  generalize rdE kkb2 l j = s
  generalize rdE kkb2 l (j - 1) = p
  generalize okFrom l m (j + 1) = z
  rw [show decide ((ByteArray.size s.2.2.2.2 : Int) > 60) = !decide (ByteArray.size s.2.2.2.2 ≤ 60) by
   rw [Bool.eq_iff_iff, decide_eq_true_iff, Bool.not_eq_true', decide_eq_false_iff_not]; omega]
  cases (decide (0 ≤ s.1) && decide (s.1 ≤ 65535)) with
  | false => rfl
  | true =>
  cases (decide (0 ≤ s.2.1) && decide (s.2.1 ≤ 65535)) with
  | false => rfl
  | true =>
  simp only [Bool.not_true, cf, Bool.true_and, Bool.and_self]
  by_cases hj : j = 0
  ·rw [decide_f (show ¬ ((j : Int) > 0) by omega), cf, decide_t hj]
   cases (decide (0 ≤ s.2.2.1) && decide (s.2.2.1 ≤ 6)) <;> cases (decide (0 ≤ s.2.2.2.1) && decide (s.2.2.2.1 ≤ 50)) <;> cases decide (ByteArray.size s.2.2.2.2 ≤ 60) <;> rfl
  ·rw [decide_t (show (j : Int) > 0 by omega), ct, decide_f hj, grd_of (gIx_t (by omega) (by omega)), Bool.false_or]
   by_cases hp : p.1 < s.1
   ·rw [decide_f (show ¬ (p.1 ≥ s.1) from Int.not_le.2 hp), cf, decide_t hp]
    cases (decide (0 ≤ s.2.2.1) && decide (s.2.2.1 ≤ 6)) <;> cases (decide (0 ≤ s.2.2.2.1) && decide (s.2.2.2.1 ≤ 50)) <;> cases decide (ByteArray.size s.2.2.2.2 ≤ 60) <;> rfl
   ·rw [decide_t (show p.1 ≥ s.1 from Int.not_lt.1 hp), ct, decide_f hp, Bool.and_false, Bool.false_and]
def ledgerV (lv : List ByteArray) (t : Tree VB) (ss : List (El kkb2)) : Bool := decide (lv.length ≤ 50) && lv.all is32 && decide (ss.length ≤ 8) && mapV t && okFrom ss ss.length 0
theorem ledgerOK_i (lv : List ByteArray) (t : Tree VB) (ss : List (El kkb2)) : gq28 lv t.val.1 t.val.2.1 t.val.2.2 t.kids ss = some (ledgerV lv t ss) := by
 unfold gq28 gq28.F ledgerV
 by_cases h0 : lv.length ≤ 50
 ·rw [decide_f (show ¬ ((lv.length : Int) > 50) by omega), cf, decide_t h0, isHash_eq _ (by omega), bs]
  cases lv.all is32 with
  | false => rfl
  | true =>
   rw [Bool.not_true, cf]
   by_cases h1 : ss.length ≤ 8
   ·rw [decide_f (show ¬ ((ss.length : Int) > 8) by omega), cf, decide_t h1, mapOK_i, bs]
    cases mapV t with
    | false => rfl
    | true =>
     rw [Bool.not_true, cf]
     have := ses_i ss h1 lv t.val.1 t.val.2.1 t.val.2.2 t.kids ss.length fuel 0 (by omega) (fuel_big (by omega))
     rw [Int.natCast_zero] at this
     rw [this]
     simp
   ·rw [decide_t (show ((ss.length : Int) > 8) by omega), ct, decide_f h1]
    simp
 ·rw [decide_t (show ((lv.length : Int) > 50) by omega), ct, decide_f h0]
  simp
theorem ledgerOK_s (lv : List ByteArray) (t : Tree VB) (ss : List (El kkb2)) : gq23 lv t.val.1 t.val.2.1 t.val.2.2 t.kids ss = some (ledgerV lv t ss) := by
 unfold gq23 gq23.F ledgerV
 by_cases h0 : lv.length ≤ 50
 ·rw [decide_f (show ¬ ((lv.length : Int) > 50) by omega), cf, decide_t h0, l06Hashes_eq _ (by omega), bs, decide_t (show lv.length ≤ 64 by omega), Bool.true_and]
  cases lv.all is32 with
  | false => rfl
  | true =>
   rw [Bool.not_true, cf, mapOK_s, bs]
   cases mapV t with
   | false => simp
   | true =>
    rw [Bool.not_true, cf]
    by_cases h1 : ss.length ≤ 8
    ·rw [decide_f (show ¬ ((ss.length : Int) > 8) by omega), cf, decide_t h1]
     have := ses_s ss h1 lv t.val.1 t.val.2.1 t.val.2.2 t.kids ss.length fuel 0 (by omega) (fuel_big (by omega))
     rw [Int.natCast_zero] at this
     rw [this]
     simp
    ·rw [decide_t (show ((ss.length : Int) > 8) by omega), ct, decide_f h1]
     simp
 ·rw [decide_t (show ((lv.length : Int) > 50) by omega), ct, decide_f h0]
  simp
theorem ledgerV_parts {lv : List ByteArray} {t : Tree VB} {ss : List (El kkb2)} (h : ledgerV lv t ss = true) : lv.length ≤ 50 ∧ (∀ s ∈ lv, s.size = 32) ∧ mapV t = true := by
 unfold ledgerV at h
 simp only [Bool.and_eq_true, decide_eq_true_eq, List.all_eq_true] at h
 exact ⟨h.1.1.1.1, fun s hs => by have := h.1.1.1.2 s hs; unfold is32 at this; simpa using this, h.1.2⟩
end Go.Proofs.YtooijdhcaghdlaaA
namespace Go.Proofs.YtooijdhcaghdlaaA
open Go
set_option linter.unusedVariables false
set_option linter.unusedSimpArgs false
def SzT : Nat → Tree VB → Prop
 | 0, _ => False
 | n + 1, t => t.kids.length ≤ 1048576 ∧ ∀ y ∈ t.kids, SzT n y
theorem SzT.up : ∀ {n m : Nat} {t : Tree VB}, SzT n t → n ≤ m → SzT m t
 | 0, _, _, h, _ => h.elim
 | n + 1, m + 1, t, ⟨h1, h2⟩, h => ⟨h1, fun y hy => (h2 y hy).up (by omega)⟩
abbrev VBok (v : VB) : Prop := (ByteArray.size v.1 ≤ 140737488351232) ∧ (ByteArray.size v.2.1 ≤ 140737488351232) ∧ ((Lit.int .i64 v.2.2).wf = true)
theorem szBranch_eq : ∀ (d : Nat) (t : Tree VB) (left : Int) (fu : Nat), TrV VBok 64 d t → 0 ≤ left → left ≤ 1048576 → left < fu → ∃ r, gq21 fu t.val.1 t.val.2.1 t.val.2.2 t.kids left = some r ∧ r ≤ left ∧ (¬ r < 0 → SzT (left.toNat + 1) t)
 | 0, _, _, _, h, _, _, _ => h.elim
 | d + 1, t, left, 0, _, h0, _, hf => by omega
 | d + 1, t, left, fu + 1, ⟨⟨hk, hv, _⟩, hk1, hk2, hkids⟩, h0, h1, hf => by
  simp only [gq21, gq21.F]
  rw [wr (x := left - (ByteArray.size t.val.1 : Int)) (by omega) (by omega)]
  by_cases c1 : left - (ByteArray.size t.val.1 : Int) < 0
  ·rw [decide_t c1, ct]; exact ⟨_, rfl, by omega, fun h => by omega⟩
  rw [decide_f c1, cf, wr (x := left - (ByteArray.size t.val.1 : Int) - (ByteArray.size t.val.2.1 : Int)) (by omega) (by omega)]
  by_cases c2 : left - (ByteArray.size t.val.1 : Int) - (ByteArray.size t.val.2.1 : Int) < 0
  ·rw [decide_t c2, ct]; exact ⟨_, rfl, by omega, fun h => by omega⟩
  rw [decide_f c2, cf]
  obtain ⟨q0, hq0⟩ : ∃ q0, q0 = left - (ByteArray.size t.val.1 : Int) - (ByteArray.size t.val.2.1 : Int) := ⟨_, rfl⟩
  rw [← hq0] at c2 ⊢
  have hrow : ∃ r, gq41 (gq21 fu) t.kids q0 = some r ∧ r ≤ q0 ∧ (¬ r < 0 → t.kids.length ≤ 1048576 ∧ ∀ y ∈ t.kids, SzT left.toNat y) := by
   unfold gq41 gq41.F
   rw [wr (x := q0 - (t.kids.length : Int)) (by omega) (by omega)]
   by_cases c3 : q0 - (t.kids.length : Int) < 0
   ·rw [decide_t c3, ct]; exact ⟨_, rfl, by omega, fun h => by omega⟩
   rw [decide_f c3, cf]
   have key : ∀ (m n i : Nat) (q : Int), i + m = t.kids.length → m < n → 0 ≤ q → q ≤ q0 - (t.kids.length : Int) → ∃ r, gq41.l1 (gq21 fu) (fun left1 => some left1) (fun i => some i) n t.kids q i = some r ∧ r ≤ q ∧ (¬ r < 0 → ∀ y ∈ t.kids.drop i, SzT left.toNat y) := by
    intro m
    induction m with
    | zero =>
     intro n i q e hn hq hq1
     obtain ⟨n, rfl⟩ : ∃ q, n = q + 1 := ⟨n - 1, by omega⟩
     rw [gq41.l1.eq_2, decide_f (by omega), cf, List.drop_of_length_le (by omega)]
     exact ⟨_, rfl, Int.le_refl _, fun _ s hs => by simp at hs⟩
    | succ m ih =>
     intro n i q e hn hq hq1
     obtain ⟨n, rfl⟩ : ∃ q, n = q + 1 := ⟨n - 1, by omega⟩
     have hi : i < t.kids.length := by omega
     rw [gq41.l1.eq_2, decide_t (by omega), ct, grd_of (gIx_t (by omega) (by omega)), Int.toNat_natCast, rdE_at (k := kk8eb) hi]
     obtain ⟨r, k1, k2, k3⟩ := szBranch_eq d (t.kids[i]) q fu (hkids _ (List.getElem_mem hi)) hq (by omega) (by omega)
     rw [k1, bs]
     by_cases h3 : r < 0
     ·rw [decide_t h3, ct]
      exact ⟨_, rfl, by omega, fun h => by omega⟩
     ·rw [decide_f h3, cf, wr (x := (i : Int) + 1) (by omega) (by omega)]
      obtain ⟨r', h4, h5, h6⟩ := ih n (i + 1) r (by omega) (by omega) (by omega) (by omega)
      rw [show ((i + 1 : Nat) : Int) = (i : Int) + 1 by omega] at h4
      refine ⟨r', h4, by omega, fun h y hy => ?_⟩
      rw [drop_cons hi] at hy
      rcases List.mem_cons.1 hy with rfl | hy
      ·exact (k3 h3).up (by omega)
      ·exact h6 h y hy
   obtain ⟨r, e1, e2, e3⟩ := key t.kids.length fuel 0 _ (by omega) (fuel_big (by omega)) (by omega : 0 ≤ q0 - (t.kids.length : Int)) (by omega)
   refine ⟨r, e1, by omega, fun h => ⟨by omega, fun y hy => e3 h y (by simpa using hy)⟩⟩
  obtain ⟨r, e1, e2, e3⟩ := hrow
  rw [e1, bs]
  by_cases c4 : r < 0
  ·rw [decide_t c4, ct]; exact ⟨_, rfl, by omega, fun h => by omega⟩
  ·rw [decide_f c4, cf]
   exact ⟨_, rfl, by omega, fun h => e3 h⟩
theorem toBranch_eq : ∀ (n fu : Nat) (t : Tree VB), SzT n t → n ≤ fu → gq26 fu t.val.1 t.val.2.1 t.val.2.2 t.kids = some (t.val.1, t.val.2.1, t.val.2.2, t.kids)
 | 0, _, _, h, _ => h.elim
 | n + 1, fu + 1, t, ⟨h1, h2⟩, hf => by
  simp only [gq26, gq26.F]
  have : gq47 (gq26 fu) t.kids = some t.kids := by
   unfold gq47 gq47.F
   rw [grd_of (gMk_t (by omega) (by omega) (by omega))]
   refine copy_loop (k := kk8eb) (L := fun n i out => gq47.l1 (gq26 fu) (fun out => some out) n t.kids i out) (fin := fun out => some out) ?_ ?_ t.kids.length fuel 0 _ (by omega) (fuel_big (by omega)) (by simp) (by simp)
   ·intro n' i out hi hl
    have ih := toBranch_eq n fu (t.kids[i]) (h2 _ (List.getElem_mem hi)) (by omega)
    simp only [gq47.l1.eq_2]
    rw [decide_t (by omega), ct, grd_of (gIx_t (by omega) (by omega)), Int.toNat_natCast, rdE_at (k := kk8eb) hi, ih, bs, grd_of (gIx_t (by omega) (by omega)), wr (by omega) (by omega), show ((i : Int) + 1) = ((i + 1 : Nat) : Int) by omega]
    show gq47.l1 _ _ n' _ _ (List.set out i (Tree.mk (t.kids[i]).val (t.kids[i]).kids)) = _
    have : ∀ y : Tree VB, Tree.mk y.val y.kids = y := fun y => by cases y; rfl
    rw [this]
   ·intro n' out
    simp only [gq47.l1.eq_2]
    rw [decide_f (by omega), cf]
  rw [this, bs]
theorem eqBranch_self : ∀ (n fu : Nat) (t : Tree VB), SzT n t → n ≤ fu → gq30 fu t.val.1 t.val.2.1 t.val.2.2 t.kids t.val.1 t.val.2.1 t.val.2.2 t.kids = some true
 | 0, _, _, h, _ => h.elim
 | n + 1, fu + 1, t, ⟨h1, h2⟩, hf => by
  simp only [gq30, gq30.F]
  have : gq55 (gq30 fu) t.kids t.kids = some true := by
   unfold gq55 gq55.F
   rw [show ((t.kids.length : Int) != t.kids.length) = false by simp, cf]
   have key : ∀ (m n' i : Nat), i + m = t.kids.length → m < n' → gq55.l1 (gq30 fu) (some true) (fun b1 => some b1) n' t.kids t.kids (i : Int) = some true := by
    intro m
    induction m with
    | zero =>
     intro n' i e hn
     obtain ⟨n', rfl⟩ : ∃ q, n' = q + 1 := ⟨n' - 1, by omega⟩
     rw [gq55.l1.eq_2, decide_f (by omega), cf]
    | succ m ih =>
     intro n' i e hn
     obtain ⟨n', rfl⟩ : ∃ q, n' = q + 1 := ⟨n' - 1, by omega⟩
     have hi : i < t.kids.length := by omega
     rw [gq55.l1.eq_2, decide_t (by omega), ct, grd_of (gIx_t (by omega) (by omega)), grd_of (gIx_t (by omega) (by omega)), Int.toNat_natCast, rdE_at (k := kk8eb) hi, eqBranch_self n fu _ (h2 _ (List.getElem_mem hi)) (by omega), bs, Bool.not_true, cf, wr (by omega) (by omega), show ((i : Int) + 1) = ((i + 1 : Nat) : Int) by omega]
     exact ih n' (i + 1) (by omega) (by omega)
   exact key t.kids.length fuel 0 (by omega) (fuel_big (by omega))
  rw [sEq_self, sEq_self, Bool.not_true, cf, cf, bne_self_eq_false, cf, this, bs]
  rfl
structure SzSes (a : List (El kkb2)) : Prop where
 len : a.length ≤ 1048576
 each : ∀ f ∈ a, ByteArray.size f.2.2.2.2 ≤ 1048576
theorem szSession_eq (i s k p : Int) (v : ByteArray) (q : Int) (hv : v.size ≤ 140737488351232) (h0 : 0 ≤ q) (h1 : q ≤ 1048576) : ∃ r, gq42 i s k p v q = some r ∧ r ≤ q ∧ (¬ r < 0 → v.size ≤ 1048576) := by
 unfold gq42 gq42.F gq60 gq60.F
 rw [wr (x := q - (v.size : Int)) (by omega) (by omega)]
 by_cases h2 : q - (v.size : Int) < 0
 ·rw [decide_t h2, ct, bs, decide_t (by omega), ct]
  exact ⟨_, rfl, by omega, fun h => by omega⟩
 ·rw [decide_f h2, cf, bs, decide_f h2, cf]
  exact ⟨_, rfl, by omega, fun h => by omega⟩
theorem szSessionS_eq (a : List (El kkb2)) (left : Int) (h : 0 ≤ left) (hl : left ≤ 1048576) (ha : a.length ≤ 9223372036854775) (hs : ∀ f ∈ a, ByteArray.size f.2.2.2.2 ≤ 140737488351232) : ∃ r, gq22 a left = some r ∧ r ≤ left ∧ (¬ r < 0 → SzSes a) := by
 unfold gq22 gq22.F
 rw [wr (x := left - (a.length : Int)) (by omega) (by omega)]
 by_cases h0 : left - (a.length : Int) < 0
 ·rw [decide_t h0, ct]
  exact ⟨_, rfl, by omega, fun h => by omega⟩
 ·rw [decide_f h0, cf]
  have key : ∀ (m n i : Nat) (q : Int), i + m = a.length → m < n → 0 ≤ q → q ≤ left → ∃ r, gq22.l1 (fun left1 => some left1) (fun i => some i) n a q i = some r ∧ r ≤ left ∧ (¬ r < 0 → ∀ f ∈ a.drop i, ByteArray.size f.2.2.2.2 ≤ 1048576) := by
   intro m
   induction m with
   | zero =>
    intro n i q e hn hq hq1
    obtain ⟨n, rfl⟩ : ∃ q, n = q + 1 := ⟨n - 1, by omega⟩
    rw [gq22.l1.eq_2, decide_f (by omega), cf, List.drop_of_length_le (by omega)]
    exact ⟨_, rfl, hq1, fun _ s hs => by simp at hs⟩
   | succ m ih =>
    intro n i q e hn hq hq1
    obtain ⟨n, rfl⟩ : ∃ q, n = q + 1 := ⟨n - 1, by omega⟩
    have hi : i < a.length := by omega
    have h2 := hs _ (List.getElem_mem hi)
    obtain ⟨r, k1, k2, k3⟩ := szSession_eq a[i].1 a[i].2.1 a[i].2.2.1 a[i].2.2.2.1 a[i].2.2.2.2 q h2 hq (by omega)
    rw [gq22.l1.eq_2, decide_t (by omega), ct, grd_of (gIx_t (by omega) (by omega)), Int.toNat_natCast, rdE_at (k := kkb2) hi, k1, bs]
    by_cases h3 : r < 0
    ·rw [decide_t h3, ct]
     exact ⟨_, rfl, by omega, fun h => by omega⟩
    ·rw [decide_f h3, cf, wr (x := (i : Int) + 1) (by omega) (by omega)]
     obtain ⟨r', h4, h5, h6⟩ := ih n (i + 1) r (by omega) (by omega) (by omega) (by omega)
     rw [show ((i + 1 : Nat) : Int) = (i : Int) + 1 by omega] at h4
     refine ⟨r', h4, h5, fun h s hs => ?_⟩
     rw [drop_cons hi] at hs
     rcases List.mem_cons.1 hs with rfl | hs
     ·exact k3 h3
     ·exact h6 h s hs
  obtain ⟨r, h4, h5, h6⟩ := key a.length fuel 0 _ (by omega) (fuel_big (by omega)) (by omega : 0 ≤ left - (a.length : Int)) (by omega)
  refine ⟨r, h4, h5, fun h => ⟨by omega, fun s hs => h6 h s (by simpa using hs)⟩⟩
theorem toSessionS_eq (a : List (El kkb2)) (h : a.length ≤ 1048576) : gq27 a = some a := by
 unfold gq27 gq27.F
 rw [grd_of (gMk_t (by omega) (by omega) (by omega))]
 refine copy_loop (k := kkb2) (L := fun n i out => gq27.l1 (fun out => some out) n a i out) (fin := fun out => some out) ?_ ?_ a.length fuel 0 _ (by omega) (fuel_big (by omega)) (by simp) (by simp)
 ·intro n i out hi hl
  simp only [gq27.l1.eq_2, gq48, gq48.F, gq68, gq68.F]
  rw [decide_t (by omega), ct, grd_of (gIx_t (by omega) (by omega)), bs, bs, grd_of (gIx_t (by omega) (by omega)), wr (by omega) (by omega), Int.toNat_natCast, rdE_at (k := kkb2) hi, show ((i : Int) + 1) = ((i + 1 : Nat) : Int) by omega]
  rfl
 ·intro n out
  simp only [gq27.l1.eq_2]
  rw [decide_f (by omega), cf]
theorem eqSessionS_self (a : List (El kkb2)) (h : a.length ≤ 1048576) : gq31 a a = some true := by
 unfold gq31 gq31.F
 rw [show ((a.length : Int) != a.length) = false by simp, cf]
 have key : ∀ (m n' i : Nat), i + m = a.length → m < n' → gq31.l1 (some true) (fun b1 => some b1) n' a a (i : Int) = some true := by
  intro m
  induction m with
  | zero =>
   intro n' i e hn
   obtain ⟨n', rfl⟩ : ∃ q, n' = q + 1 := ⟨n' - 1, by omega⟩
   rw [gq31.l1.eq_2, decide_f (by omega), cf]
  | succ m ih =>
   intro n' i e hn
   obtain ⟨n', rfl⟩ : ∃ q, n' = q + 1 := ⟨n' - 1, by omega⟩
   rw [gq31.l1.eq_2, decide_t (by omega), ct, grd_of (gIx_t (by omega) (by omega)), grd_of (gIx_t (by omega) (by omega))]
   simp only [gq56, gq56.F, gq78, gq78.F, bne_self_eq_false, cf, sEq_self, Bool.not_true, bs]
   rw [wr (by omega) (by omega), show ((i : Int) + 1) = ((i + 1 : Nat) : Int) by omega]
   exact ih n' (i + 1) (by omega) (by omega)
 exact key a.length fuel 0 (by omega) (fuel_big (by omega))
structure SzL (lv : List ByteArray) (t : Tree VB) (ss : List (El kkb2)) : Prop where
 leaves : SzS lv
 map : SzT 1048577 t
 ses : SzSes ss
theorem szLedger_eq (lv : List ByteArray) (t : Tree VB) (ss : List (El kkb2)) (h1 : lv.length ≤ 9223372036854775) (h2 : ∀ s ∈ lv, s.size ≤ 140737488351232) (h3 : ∃ d, TrV VBok 64 d t) (h4 : ss.length ≤ 9223372036854775) (h5 : ∀ f ∈ ss, ByteArray.size f.2.2.2.2 ≤ 140737488351232) (left : Int) (h0 : 0 ≤ left) (hl : left ≤ 1048576) :
  ∃ r, gq6 lv t.val.1 t.val.2.1 t.val.2.2 t.kids ss left = some r ∧ r ≤ left ∧ (¬ r < 0 → SzL lv t ss) := by
 unfold gq6 gq6.F
 obtain ⟨r, e1, e2, e3⟩ := szStringS_eq lv left h0 hl h1 h2
 rw [e1, bs]
 by_cases c1 : r < 0
 ·rw [decide_t c1, ct]; exact ⟨_, rfl, by omega, fun h => by omega⟩
 rw [decide_f c1, cf]
 obtain ⟨d, hd⟩ := h3
 obtain ⟨r1, f1, f2, f3⟩ := szBranch_eq d t r fuel hd (by omega) (by omega) (by
  have := fuel_big (n := r.toNat) (by omega)
  omega)
 rw [f1, bs]
 by_cases c2 : r1 < 0
 ·rw [decide_t c2, ct]; exact ⟨_, rfl, by omega, fun h => by omega⟩
 rw [decide_f c2, cf]
 obtain ⟨r2, g1, g2, g3⟩ := szSessionS_eq ss r1 (by omega) (by omega) h4 h5
 rw [g1, bs]
 by_cases c3 : r2 < 0
 ·rw [decide_t c3, ct]; exact ⟨_, rfl, by omega, fun h => by omega⟩
 rw [decide_f c3, cf]
 exact ⟨_, rfl, by omega, fun h => ⟨e3 c1, (f3 c2).up (by omega), g3 c3⟩⟩
theorem toLedger_eq {lv : List ByteArray} {t : Tree VB} {ss : List (El kkb2)} (h : SzL lv t ss) : gq8 lv t.val.1 t.val.2.1 t.val.2.2 t.kids ss = some (lv, t.val.1, t.val.2.1, t.val.2.2, t.kids, ss) := by
 unfold gq8 gq8.F
 rw [toStringS_eq lv h.leaves.len, bs, toBranch_eq 1048577 fuel t h.map (Nat.le_of_lt (fuel_big (by omega))), bs, toSessionS_eq ss h.ses.len, bs]
theorem eqLedger_self {lv : List ByteArray} {t : Tree VB} {ss : List (El kkb2)} (h : SzL lv t ss) : gq11 lv t.val.1 t.val.2.1 t.val.2.2 t.kids ss lv t.val.1 t.val.2.1 t.val.2.2 t.kids ss = some true := by
 unfold gq11 gq11.F
 rw [eqStringS_self lv h.leaves.len, bs, Bool.not_true, cf, eqBranch_self 1048577 fuel t h.map (Nat.le_of_lt (fuel_big (by omega))), bs, Bool.not_true, cf, eqSessionS_self ss h.ses.len, bs, Bool.not_true, cf]
end Go.Proofs.YtooijdhcaghdlaaA
namespace Go.Proofs.YtooijdhcaghdlaaA
open Go
set_option linter.unusedVariables false
set_option linter.unusedSimpArgs false
theorem stateOf_eq (lv : List ByteArray) (t : Tree VB) (ss : List (El kkb2)) : ∃ s, gq9 lv t.val.1 t.val.2.1 t.val.2.2 t.kids ss = some s ∧ gq7 lv t.val.1 t.val.2.1 t.val.2.2 t.kids ss = some s := by
 unfold gq9 gq9.F gq7 gq7.F
 rw [ledgerOK_i, ledgerOK_s, bs, bs]
 cases h : ledgerV lv t ss with
 | false => exact ⟨_, rfl, rfl⟩
 | true =>
  obtain ⟨h1, h2, h3⟩ := ledgerV_parts h
  obtain ⟨v, a1, a2, _⟩ := treeHash_eq 1000 fuel lv (by omega) (fuel_big (by omega)) (by omega) h2
  obtain ⟨u, b1, b2, _⟩ := mapRoot_eq t h3
  unfold gq29 gq29.F gq24 gq24.F
  rw [a1, a2, bs, bs, b1, b2, bs, Bool.not_true, cf]
  exact ⟨_, rfl, rfl⟩
theorem stateOf_law (lv : List ByteArray) (t : Tree VB) (ss : List (El kkb2)) (h1 : lv.length ≤ 9223372036854775) (h2 : ∀ s ∈ lv, s.size ≤ 140737488351232) (h3 : ∃ d, TrV VBok 64 d t) (h4 : ss.length ≤ 9223372036854775) (h5 : ∀ f ∈ ss, ByteArray.size f.2.2.2.2 ≤ 140737488351232) :
  gq3 lv t.val.1 t.val.2.1 t.val.2.2 t.kids ss = some true := by
 unfold gq3 gq3.F
 obtain ⟨r, e1, e2, e3⟩ := szLedger_eq lv t ss h1 h2 h3 h4 h5 1048576 (by decide) (by decide)
 rw [e1, bs]
 by_cases c0 : r < 0
 ·rw [decide_t c0, ct]
 ·rw [decide_f c0, cf]
  have hz := e3 c0
  obtain ⟨s, g1, g2⟩ := stateOf_eq lv t ss
  rw [toLedger_eq hz, bs]
  show (gq7 lv t.val.1 t.val.2.1 t.val.2.2 t.kids ss).bind _ = _
  rw [g2, bs, bs]
  show (gq9 lv t.val.1 t.val.2.1 t.val.2.2 t.kids ss).bind _ = _
  rw [g1, bs]
  simp only [gq10, gq10.F, bne_self_eq_false, sEq_self, cf, Bool.not_true, bs]
  rw [eqLedger_self hz]
  rfl
theorem pFnExactStateOf : ∀ (x0 : El kk748), ((x0.1.length * 16 ≤ 140737488351232 ∧ x0.1.length ≤ maxLen ∧ ∀ y ∈ x0.1, ByteArray.size y ≤ 140737488351232) ∧ ((∃ d, TrV (fun v : El (.pair .str (.pair .str (.int .i64))) => (ByteArray.size v.1 ≤ 140737488351232) ∧ (ByteArray.size v.2.1 ≤ 140737488351232) ∧ ((Lit.int .i64 v.2.2).wf = true)) 64 d x0.2.1) ∧ (x0.2.2.length * 48 ≤ 140737488351232 ∧ x0.2.2.length ≤ maxLen ∧ ∀ y ∈ x0.2.2, ((Lit.int .i64 y.1).wf = true) ∧ (((Lit.int .i64 y.2.1).wf = true) ∧ (((Lit.int .i64 y.2.2.1).wf = true) ∧ (((Lit.int .i64 y.2.2.2.1).wf = true) ∧ (ByteArray.size y.2.2.2.2 ≤ 140737488351232))))))) → gq3 x0.1 (Tree.val x0.2.1).1 (Tree.val x0.2.1).2.1 (Tree.val x0.2.1).2.2 (Tree.kids x0.2.1) x0.2.2 = some true := by
 intro x0 ⟨⟨a1, _, a2⟩, b, c1, _, c2⟩
 exact stateOf_law x0.1 x0.2.1 x0.2.2 (by omega) a2 b (by omega) fun f hf => (c2 f hf).2.2.2.2
end Go.Proofs.YtooijdhcaghdlaaA
