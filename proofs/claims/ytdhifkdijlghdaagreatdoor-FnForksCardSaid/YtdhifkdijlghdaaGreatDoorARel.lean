/-
  How the small machine's states stand to the model's worlds; what holds on when a step keeps to its own cells. No condition.
-/
import Derived.Test.YtdhifkdijlghdaaGreatDoorAEval
namespace Go.Proofs.YtdhifkdijlghdaaGreatDoorA
open Go
set_option linter.unusedVariables false
def F2 {α β : Type} (R : α → β → Prop) : List α → List β → Prop
 | [], [] => True
 | a :: as, b :: bs => R a b ∧ F2 R as bs
 | _, _ => False
theorem F2.len {α β : Type} {R : α → β → Prop} : ∀ {as : List α} {bs : List β}, F2 R as bs → as.length = bs.length
 | [], [], _ => rfl
 | a :: as, b :: bs, h => by simp [F2.len h.2]
 | [], b :: bs, h => h.elim
 | a :: as, [], h => h.elim
theorem F2.mono {α β : Type} {R R' : α → β → Prop} (hr : ∀ a b, R a b → R' a b) : ∀ {as : List α} {bs : List β}, F2 R as bs → F2 R' as bs
 | [], [], _ => trivial
 | a :: as, b :: bs, h => ⟨hr _ _ h.1, F2.mono hr h.2⟩
 | [], b :: bs, h => h.elim
 | a :: as, [], h => h.elim
theorem F2.append {α β : Type} {R : α → β → Prop} : ∀ {as as' : List α} {bs bs' : List β}, F2 R as bs → F2 R as' bs' → F2 R (as ++ as') (bs ++ bs')
 | [], _, [], _, _, h => h
 | a :: as, _, b :: bs, _, h, h' => ⟨h.1, F2.append h.2 h'⟩
 | [], _, b :: bs, _, h, _ => h.elim
 | a :: as, _, [], _, h, _ => h.elim
theorem F2.take {α β : Type} {R : α → β → Prop} : ∀ (n : Nat) {as : List α} {bs : List β}, F2 R as bs → F2 R (as.take n) (bs.take n)
 | 0, _, _, _ => trivial
 | n + 1, [], [], _ => trivial
 | n + 1, a :: as, b :: bs, h => ⟨h.1, F2.take n h.2⟩
 | n + 1, [], b :: bs, h => h.elim
 | n + 1, a :: as, [], h => h.elim
theorem F2.drop {α β : Type} {R : α → β → Prop} : ∀ (n : Nat) {as : List α} {bs : List β}, F2 R as bs → F2 R (as.drop n) (bs.drop n)
 | 0, _, _, h => h
 | n + 1, [], [], _ => trivial
 | n + 1, a :: as, b :: bs, h => F2.drop n h.2
 | n + 1, [], b :: bs, h => h.elim
 | n + 1, a :: as, [], h => h.elim
theorem F2.get {α β : Type} {R : α → β → Prop} : ∀ {as : List α} {bs : List β}, F2 R as bs → ∀ (i : Nat) (a : α), as[i]? = some a → ∃ b, bs[i]? = some b ∧ R a b
 | a :: as, b :: bs, h, 0, x, hx => ⟨b, rfl, by simp at hx; exact hx ▸ h.1⟩
 | a :: as, b :: bs, h, i + 1, x, hx => F2.get h.2 i x (by simpa using hx)
 | [], [], _, i, x, hx => by simp at hx
 | [], b :: bs, h, _, _, _ => h.elim
 | a :: as, [], h, _, _, _ => h.elim
theorem F2.splice {α β : Type} {R : α → β → Prop} {as ns : List α} {bs us : List β} (off : Nat) (h : F2 R as bs) (h' : F2 R ns us) : F2 R (as.take off ++ ns ++ as.drop (off + ns.length)) (bs.take off ++ us ++ bs.drop (off + us.length)) := by
 rw [← h'.len]
 exact F2.append (F2.append (F2.take off h) h') (F2.drop _ h)
def Rows2 {α : Type} (R : α → List Value → Prop) : List α → List Value → Prop
 | [], us => us = []
 | x :: xs, us => ∃ u r, us = u ++ r ∧ R x u ∧ Rows2 R xs r
theorem Rows2.mono {α : Type} {R R' : α → List Value → Prop} (hr : ∀ a b, R a b → R' a b) : ∀ {xs : List α} {us : List Value}, Rows2 R xs us → Rows2 R' xs us
 | [], _, h => h
 | x :: xs, _, ⟨u, r, e, h, t⟩ => ⟨u, r, e, hr _ _ h, Rows2.mono hr t⟩
theorem Rows2.append {α : Type} {R : α → List Value → Prop} : ∀ {xs ys : List α} {us vs : List Value}, Rows2 R xs us → Rows2 R ys vs → Rows2 R (xs ++ ys) (us ++ vs)
 | [], _, _, _, h, h' => by cases h; exact h'
 | x :: xs, _, _, _, ⟨u, r, e, h, t⟩, h' => ⟨u, _, by rw [e, List.append_assoc], h, Rows2.append t h'⟩
theorem Rows2.len {α : Type} {R : α → List Value → Prop} {n : Nat} (hn : ∀ a u, R a u → u.length = n) : ∀ {xs : List α} {us : List Value}, Rows2 R xs us → us.length = xs.length * n
 | [], _, h => by cases h; simp
 | x :: xs, _, ⟨u, r, e, h, t⟩ => by rw [e, List.length_append, hn _ _ h, Rows2.len hn t, List.length_cons, Nat.succ_mul, Nat.add_comm]
theorem Rows2.take {α : Type} {R : α → List Value → Prop} {n : Nat} (hn : ∀ a u, R a u → u.length = n) : ∀ (i : Nat) {xs : List α} {us : List Value}, Rows2 R xs us → Rows2 R (xs.take i) (us.take (i * n))
 | 0, _, _, _ => by simp [Rows2]
 | i + 1, [], _, h => by cases h; simp [Rows2]
 | i + 1, x :: xs, _, ⟨u, r, e, h, t⟩ => by
  refine ⟨u, r.take (i * n), ?_, h, Rows2.take hn i t⟩
  rw [e, List.take_append, hn _ _ h, List.take_of_length_le (by rw [hn _ _ h, Nat.succ_mul]; omega)]
  congr 2
  rw [Nat.succ_mul]; omega
theorem Rows2.drop {α : Type} {R : α → List Value → Prop} {n : Nat} (hn : ∀ a u, R a u → u.length = n) : ∀ (i : Nat) {xs : List α} {us : List Value}, Rows2 R xs us → Rows2 R (xs.drop i) (us.drop (i * n))
 | 0, _, _, h => by simpa using h
 | i + 1, [], _, h => by cases h; simp [Rows2]
 | i + 1, x :: xs, _, ⟨u, r, e, h, t⟩ => by
  have := Rows2.drop hn i t
  show Rows2 R (xs.drop i) _
  have hz : List.drop ((i + 1) * n) u = [] := List.drop_of_length_le (by rw [hn _ _ h, Nat.succ_mul]; omega)
  rw [e, List.drop_append, hn _ _ h, hz, List.nil_append, show (i + 1) * n - n = i * n by rw [Nat.succ_mul]; omega]
  exact this
theorem Rows2.get {α : Type} {R : α → List Value → Prop} {n : Nat} (hn : ∀ a u, R a u → u.length = n) {xs : List α} {us : List Value} (h : Rows2 R xs us) (i : Nat) (x : α) (hx : xs[i]? = some x) :
  R x ((us.drop (i * n)).take n) := by
 have hd := Rows2.drop hn i h
 have hi : i < xs.length := by
  rcases Nat.lt_or_ge i xs.length with h | h
  ·exact h
  ·simp [List.getElem?_eq_none h] at hx
 rw [List.drop_eq_getElem_cons hi] at hd
 obtain ⟨u, r, e, h1, _⟩ := hd
 rw [e, List.take_append, hn _ _ h1, List.take_of_length_le (by rw [hn _ _ h1]; exact Nat.le_refl _)]
 simp only [Nat.sub_self, List.take_zero, List.append_nil]
 have : xs[i] = x := by rw [List.getElem?_eq_getElem hi] at hx; exact Option.some.inj hx
 exact this ▸ h1
theorem Rows2.set {α : Type} {R : α → List Value → Prop} {n : Nat} (hn : ∀ a u, R a u → u.length = n) : ∀ (i : Nat) {xs : List α} {us u' : List Value} {y : α}, Rows2 R xs us → R y u' → i < xs.length → Rows2 R (xs.set i y) (us.take (i * n) ++ u' ++ us.drop (i * n + n))
 | 0, x :: xs, _, u', y, ⟨u, r, e, h, t⟩, hy, _ => ⟨u', r, by rw [e]; simp [hn _ _ h], hy, t⟩
 | i + 1, x :: xs, _, u', y, ⟨u, r, e, h, t⟩, hy, hi => by
  have := Rows2.set hn i t hy (by simpa using hi)
  refine ⟨u, _, ?_, h, this⟩
  have hl := hn _ _ h
  rw [e, List.take_append, List.drop_append, hl, List.take_of_length_le (by rw [hl, Nat.succ_mul]; omega), List.drop_of_length_le (by rw [hl, Nat.succ_mul]; omega)]
  have e1 : (i + 1) * n - n = i * n := by rw [Nat.succ_mul]; omega
  have e2 : (i + 1) * n + n - n = i * n + n := by rw [Nat.succ_mul]; omega
  rw [e1, e2]
  simp [List.append_assoc]
 | _, [], _, _, _, _, _, hi => by simp at hi
def pl (a : Addr) (j : Nat) : Addr := ⟨a.block, a.off + j, none⟩
theorem add_pl {a : Addr} (h : a.spot = none) (j : Nat) : a.add j = pl a j := by
 unfold Addr.add pl
 split
 ·rename_i e; subst e; cases a; simp_all
 ·rfl
theorem pl_pl (a : Addr) (i j : Nat) : pl (pl a i) j = pl a (i + j) := by simp [pl, Nat.add_assoc]
theorem pl_zero {a : Addr} (h : a.spot = none) : pl a 0 = a := by cases a; simp_all [pl]
theorem pl_inj {a : Addr} {i j : Nat} (h : pl a i = pl a j) : i = j := by simp [pl] at h; exact h
@[simp] theorem pl_block (a : Addr) (j : Nat) : (pl a j).block = a.block := rfl
@[simp] theorem pl_spot (a : Addr) (j : Nat) : (pl a j).spot = none := rfl
inductive Loc where
 | none | box (a : Addr) | arr (A : Option Addr) (n c : Nat) | clo (us : Array Value)
structure Gh where
 loc : Nat → Loc
 L : Nat → Addr → Prop
 fv : Nat → Value
def SM (L : Nat → Addr → Prop) (m : List Nat) (p : Addr) : Prop := ∃ b, b ∈ m ∧ L b p
def At (w : World) (S : Addr → Prop) (A : Option Addr) (us : List Value) : Prop :=
 us = [] ∨ ∃ a, A = some a ∧ a.spot = none ∧ ∀ j u, us[j]? = some u → w.cell? (pl a j) = some u ∧ S (pl a j)
def TR {α : Type} (w : World) (S : Addr → Prop) (R : α → List Value → Prop) : Nat → Tree α → List Value → Prop
 | 0, _, _ => False
 | d + 1, t, us => ∃ u r, us = u ++ r ∧ R t.val u ∧ ∃ A n c vs, r = [.slice A n c] ∧ t.kids.length = n ∧ n ≤ c ∧ Rows2 (TR w S R d) t.kids vs ∧ At w S A vs
def ER (w : World) (S : Addr → Prop) : (k : Kd) → El k → List Value → Prop
 | .int k => fun n vs => vs = [.int k n]
 | .bool => fun b vs => vs = [.bool b]
 | .str => fun s vs => vs = [.string s]
 | .list k => fun xs vs => ∃ A n c us, vs = [.slice A n c] ∧ xs.length = n ∧ n ≤ c ∧ Rows2 (ER w S k) xs us ∧ At w S A us
 | .pair a b => fun x vs => ∃ u r, vs = u ++ r ∧ ER w S a x.1 u ∧ ER w S b x.2 r
 | .tree k => fun t vs => ∃ d, TR w S (ER w S k) d t vs
theorem TR.up {α : Type} {w : World} {S : Addr → Prop} {R : α → List Value → Prop} : ∀ {d : Nat} {t : Tree α} {us : List Value}, TR w S R d t us → TR w S R (d + 1) t us
 | 0, _, _, h => h.elim
 | d + 1, t, us, ⟨u, r, e, h1, A, n, c, vs, h2, h3, h4, h5, h6⟩ => ⟨u, r, e, h1, A, n, c, vs, h2, h3, h4, Rows2.mono (fun _ _ h => TR.up h) h5, h6⟩
theorem TR.upto {α : Type} {w : World} {S : Addr → Prop} {R : α → List Value → Prop} {d e : Nat} (h : d ≤ e) {t : Tree α} {us : List Value} (ht : TR w S R d t us) : TR w S R e t us := by
 obtain ⟨k, rfl⟩ := Nat.exists_eq_add_of_le h
 clear h
 induction k with
 | zero => exact ht
 | succ k ih => exact TR.up ih
theorem TR.rows {α : Type} {w : World} {S : Addr → Prop} {R : α → List Value → Prop} : ∀ {ts : List (Tree α)} {vs : List Value}, Rows2 (fun t us => ∃ d, TR w S R d t us) ts vs → ∃ d, Rows2 (TR w S R d) ts vs
 | [], _, h => ⟨0, h⟩
 | t :: ts, _, ⟨v, r, e, ⟨d, h1⟩, h2⟩ => by
  obtain ⟨d', h3⟩ := TR.rows h2
  exact ⟨max d d', v, r, e, TR.upto (Nat.le_max_left _ _) h1, Rows2.mono (fun _ _ h => TR.upto (Nat.le_max_right _ _) h) h3⟩
theorem ER.tree {w : World} {S : Addr → Prop} {k : Kd} {t : El (.tree k)} {us : List Value} : ER w S (.tree k) t us ↔ ∃ u r, us = u ++ r ∧ ER w S k (Tree.val t) u ∧ ER w S (.list (.tree k)) (Tree.kids t) r := by
 constructor
 ·rintro ⟨d, h⟩
  cases d with
  | zero => exact h.elim
  | succ d =>
   obtain ⟨u, r, e, h1, A, n, c, vs, h2, h3, h4, h5, h6⟩ := h
   exact ⟨u, r, e, h1, A, n, c, vs, h2, h3, h4, Rows2.mono (fun _ _ h => ⟨d, h⟩) h5, h6⟩
 ·rintro ⟨u, r, e, h1, A, n, c, vs, h2, h3, h4, h5, h6⟩
  obtain ⟨d, h7⟩ := TR.rows h5
  exact ⟨d + 1, u, r, e, h1, A, n, c, vs, h2, h3, h4, h7, h6⟩
theorem ER.len {w : World} {S : Addr → Prop} : ∀ (k : Kd) (x : El k) (u : List Value), ER w S k x u → u.length = k.size
 | .int k, x, u, h => by simp only [ER] at h; subst h; rfl
 | .bool, x, u, h => by simp only [ER] at h; subst h; rfl
 | .str, x, u, h => by simp only [ER] at h; subst h; rfl
 | .list k, x, u, h => by simp only [ER] at h; obtain ⟨A, n, c, us, rfl, _⟩ := h; rfl
 | .pair a b, x, u, h => by
  simp only [ER] at h
  obtain ⟨u, r, rfl, h1, h2⟩ := h
  simp [ER.len a _ _ h1, ER.len b _ _ h2, Kd.size]
 | .tree k, x, u, h => by
  obtain ⟨u, r, rfl, h1, A, n, c, vs, rfl, _⟩ := ER.tree.1 h
  simp [ER.len k _ _ h1, Kd.size]
theorem Kd.size_pos : ∀ k : Kd, 0 < k.size
 | .int _ | .bool | .str | .list _ | .tree _ => by simp [Kd.size]
 | .pair a b => by have := Kd.size_pos a; simp only [Kd.size]; omega
theorem At.mono {w w' : World} {S S' : Addr → Prop} {A : Option Addr} {us : List Value} (hs : ∀ p, S p → S' p) (hw : ∀ p, S p → w'.cell? p = w.cell? p) (h : At w S A us) : At w' S' A us := by
 rcases h with h | ⟨a, e, hsp, h⟩
 ·exact .inl h
 ·exact .inr ⟨a, e, hsp, fun j u hu => ⟨by rw [hw _ (h j u hu).2]; exact (h j u hu).1, hs _ (h j u hu).2⟩⟩
theorem TR.mono {α : Type} {R R' : α → List Value → Prop} {w w' : World} {S S' : Addr → Prop} (hs : ∀ p, S p → S' p) (hw : ∀ p, S p → w'.cell? p = w.cell? p) (hr : ∀ a b, R a b → R' a b) : ∀ {d : Nat} {t : Tree α} {us : List Value}, TR w S R d t us → TR w' S' R' d t us
 | 0, _, _, h => h.elim
 | d + 1, t, us, ⟨u, r, e, h1, A, n, c, vs, h2, h3, h4, h5, h6⟩ => ⟨u, r, e, hr _ _ h1, A, n, c, vs, h2, h3, h4, Rows2.mono (fun _ _ h => TR.mono hs hw hr h) h5, At.mono hs hw h6⟩
theorem ER.mono {w w' : World} {S S' : Addr → Prop} (hs : ∀ p, S p → S' p) (hw : ∀ p, S p → w'.cell? p = w.cell? p) : ∀ (k : Kd) (x : El k) (u : List Value), ER w S k x u → ER w' S' k x u
 | .int k, x, u, h => h
 | .bool, x, u, h => h
 | .str, x, u, h => h
 | .list k, x, u, h => by
  simp only [ER] at h ⊢
  obtain ⟨A, n, c, us, e, h1, h2, h3, h4⟩ := h
  exact ⟨A, n, c, us, e, h1, h2, Rows2.mono (fun a b hab => ER.mono hs hw k a b hab) h3, At.mono hs hw h4⟩
 | .pair a b, x, u, h => by
  simp only [ER] at h ⊢
  obtain ⟨u, r, e, h1, h2⟩ := h
  exact ⟨u, r, e, ER.mono hs hw a _ _ h1, ER.mono hs hw b _ _ h2⟩
 | .tree k, x, u, h => by
  obtain ⟨d, h⟩ := h
  exact ⟨d, TR.mono hs hw (fun a b => ER.mono hs hw k a b) h⟩
theorem ER.flat {w w' : World} {S S' : Addr → Prop} : ∀ (k : Kd) (x : El k) (u : List Value), k.flat = true → ER w S k x u → ER w' S' k x u
 | .int k, x, u, _, h => h
 | .bool, x, u, _, h => h
 | .str, x, u, _, h => h
 | .list k, x, u, hf, h => by simp [Kd.flat] at hf
 | .pair a b, x, u, hf, h => by
  simp only [ER, Kd.flat, Bool.and_eq_true] at h hf ⊢
  obtain ⟨u, r, e, h1, h2⟩ := h
  exact ⟨u, r, e, ER.flat a _ _ hf.1 h1, ER.flat b _ _ hf.2 h2⟩
 | .tree k, x, u, hf, h => by simp [Kd.flat] at hf
def CR (g : Gh) (w : World) : C → Value → Prop
 | .int k n, v => v = .int k n
 | .bool b, v => v = .bool b
 | .str s, v => v = .string s
 | .nil, v => ∃ A, v = .slice A 0 0
 | .slv m k xs, v => ER w (SM g.L m) (.list k) xs [v]
 | .own _ _ _ _, _ => False
 | .slo id, v => ∃ A n c, g.loc id = .arr A n c ∧ v = .slice A n c
 | .bptr id off, v => ∃ a, g.loc id = .box a ∧ v = .pointer (some (pl a off))
 | .aptr id, v => ∃ a n c, g.loc id = .arr (some a) n c ∧ v = .pointer (some (pl a 0))
 | .eptr id i sz off, v => ∃ a n c, g.loc id = .arr (some a) n c ∧ i < n ∧ v = .pointer (some (pl a (i * sz + off)))
 | .rptr m k x off, v => ∃ a us, v = .pointer (some (pl a off)) ∧ ER w (SM g.L m) k x us ∧ ∀ j u, us[j]? = some u → w.cell? (pl a j) = some u ∧ SM g.L m (pl a j)
 | .fn f, v => v = .func (.func f) #[] #[]
 | .clo f id, v => ∃ us, g.loc id = .clo us ∧ v = .func (.func f) #[] us
 | .fv j, v => v = g.fv j ∧ ∃ f us, v = .func f #[] us
 | .undef, _ => True
def V1R (g : Gh) (w : World) : V1 → Value → Prop
 | .one c, v => CR g w c v
 | .agg cs, v => ∃ us : Array Value, v = .agg us ∧ F2 (CR g w) cs us.toList
 | .vec n k xs, v => ∃ us : Array Value, v = .agg us ∧ xs.length = n ∧ k.flat = true ∧ Rows2 (ER w (fun _ => False) k) xs us.toList
 | .pbx _, _ => False
def TVR (g : Gh) (w : World) : TV → Value → Prop
 | .v x, v => V1R g w x v
 | .tup xs, v => ∃ us : Array Value, v = .tuple us ∧ F2 (V1R g w) xs us.toList
def EndFree (w : World) (b : Nat) : Prop := ∀ e n, w.shape? b = some (e, n) → w.frozen? ⟨b, n, none⟩ = false
def ObR (g : Gh) (w : World) (id : Nat) : Ob → Prop
 | .box cs => ∃ a us, g.loc id = .box a ∧ F2 (CR g w) cs us ∧ ∀ j u, us[j]? = some u → w.cell? (pl a j) = some u ∧ w.frozen? (pl a j) = false
 | .arr k xs m x => ∃ A n c us, g.loc id = .arr A n c ∧ xs.length = n ∧ n ≤ c ∧ Rows2 (ER w (SM g.L m) k) xs us ∧
   (c = 0 ∨ ∃ a, A = some a ∧ a.spot = none ∧ (∀ j u, us[j]? = some u → w.cell? (pl a j) = some u) ∧ (∀ j, j < c * k.size → (w.cell? (pl a j)).isSome = true ∧ w.frozen? (pl a j) = false) ∧
    (x = false → ∀ j, j < us.length → g.L 0 (pl a j)) ∧ (k.size ≠ 1 → EndFree w a.block))
 | .vec n k xs => ∃ a us, g.loc id = .arr (some a) n n ∧ xs.length = n ∧ k.flat = true ∧ Rows2 (ER w (fun _ => False) k) xs us ∧ ∀ j u, us[j]? = some u → w.cell? (pl a j) = some u ∧ w.frozen? (pl a j) = false
 | .clo caps => ∃ us : Array Value, g.loc id = .clo us ∧ F2 (CR g w) caps us.toList
 | .cbox m cs => ∃ a us, g.loc id = .box a ∧ F2 (CR g w) cs us ∧ ∀ j u, us[j]? = some u → w.cell? (pl a j) = some u ∧ SM g.L m (pl a j)
 | .dead => g.loc id ≠ .none
def MR (g : Gh) (id : Nat) : Ob → Addr → Prop
 | .box cs, p => ∃ a j, g.loc id = .box a ∧ j < cs.length ∧ p = pl a j
 | .arr k xs _ x, p => ∃ a n c j, g.loc id = .arr (some a) n c ∧ (if x then 0 else xs.length * k.size) ≤ j ∧ j < c * k.size ∧ p = pl a j
 | .vec n k _, p => ∃ a c j, g.loc id = .arr (some a) n c ∧ j < n * k.size ∧ p = pl a j
 | _, _ => False
structure Keeps (M : Addr → Prop) (w w' : World) : Prop where
 os : w'.os = w.os
 tape : w'.tape = w.tape
 output : w'.output = w.output
 size : w.heap.size ≤ w'.heap.size
 block : ∀ b, b < w.heap.size → w'.heap[b]? = w.heap[b]? ∨ ∃ c e fz c', w.heap[b]? = some (.cells c e fz) ∧ w'.heap[b]? = some (.cells c' e fz) ∧ c'.size = c.size ∧ ∀ j, ¬ M ⟨b, j, none⟩ → c'[j]? = c[j]?
theorem Keeps.refl (M : Addr → Prop) (w : World) : Keeps M w w := ⟨rfl, rfl, rfl, Nat.le_refl _, fun _ _ => .inl rfl⟩
theorem Keeps.trans' {M M' : Addr → Prop} {w w1 w2 : World} (h : Keeps M w w1) (k : Keeps M' w1 w2) (hm : ∀ p, p.block < w.heap.size → M' p → M p) : Keeps M w w2 := by
 refine ⟨k.os.trans h.os, k.tape.trans h.tape, k.output.trans h.output, Nat.le_trans h.size k.size, fun b hb => ?_⟩
 rcases h.block b hb with h1 | ⟨c, e, fz, c', h1, h2, h3, h4⟩ <;> rcases k.block b (Nat.lt_of_lt_of_le hb h.size) with k1 | ⟨d, e', fz', d', k1, k2, k3, k4⟩
 ·exact .inl (k1.trans h1)
 ·exact .inr ⟨d, e', fz', d', by rw [← h1, k1], k2, k3, fun j hj => k4 j fun hm' => hj (hm _ hb hm')⟩
 ·exact .inr ⟨c, e, fz, c', h1, by rw [k1, h2], h3, h4⟩
 ·rw [h2] at k1
  cases k1
  exact .inr ⟨c, e, fz, d', h1, k2, k3.trans h3, fun j hj => (k4 j fun hm' => hj (hm _ hb hm')).trans (h4 j hj)⟩
theorem Keeps.mono {M M' : Addr → Prop} {w w1 : World} (h : Keeps M w w1) (hm : ∀ p, p.block < w.heap.size → M p → M' p) : Keeps M' w w1 :=
 ⟨h.os, h.tape, h.output, h.size, fun b hb => (h.block b hb).imp id fun ⟨c, e, fz, c', h1, h2, h3, h4⟩ => ⟨c, e, fz, c', h1, h2, h3, fun j hj => h4 j fun hm' => hj (hm _ hb hm')⟩⟩
theorem Keeps.cell {M : Addr → Prop} {w w' : World} (h : Keeps M w w') {p : Addr} (hb : p.block < w.heap.size) (hm : ¬ M ⟨p.block, p.off, none⟩) : w'.cell? p = w.cell? p := by
 rcases h.block _ hb with h1 | ⟨c, e, fz, c', h1, h2, h3, h4⟩
 ·simp [World.cell?, h1]
 ·simp only [World.cell?, h1, h2]
  split
  ·rfl
  ·exact h4 _ hm
theorem Keeps.some {M : Addr → Prop} {w w' : World} (h : Keeps M w w') {p : Addr} (hs : (w.cell? p).isSome = true) : (w'.cell? p).isSome = true := by
 obtain ⟨u, hu⟩ := Option.isSome_iff_exists.1 hs
 have hb := World.block_lt_of_cell? w p hu
 rcases h.block _ hb with h1 | ⟨c, e, fz, c', h1, h2, h3, h4⟩
 ·rw [World.cell?, h1]; exact hs
 ·simp only [World.cell?, h1, h2] at hs ⊢
  split at hs
  ·simp at hs
  ·rename_i hsp
   rw [if_neg hsp]
   have : p.off < c.size := by
    rcases Nat.lt_or_ge p.off c.size with h' | h'
    ·exact h'
    ·simp [Array.getElem?_eq_none h'] at hs
   rw [Array.getElem?_eq_getElem (by omega)]
   rfl
theorem Keeps.frozen {M : Addr → Prop} {w w' : World} (h : Keeps M w w') {p : Addr} (hb : p.block < w.heap.size) : w'.frozen? p = w.frozen? p := by
 rcases h.block _ hb with h1 | ⟨c, e, fz, c', h1, h2, h3, h4⟩
 ·simp [World.frozen?, h1]
 ·simp [World.frozen?, h1, h2]
theorem Keeps.endFree {M : Addr → Prop} {w w' : World} (h : Keeps M w w') {b : Nat} (hb : b < w.heap.size) (he : EndFree w b) : EndFree w' b := by
 intro e n hs
 rcases h.block _ hb with h1 | ⟨c, e', fz, c', h1, h2, h3, h4⟩
 ·have e1 : w'.shape? b = w.shape? b := by simp [World.shape?, h1]
  have e2 : w'.frozen? ⟨b, n, none⟩ = w.frozen? ⟨b, n, none⟩ := by simp [World.frozen?, h1]
  rw [e2]; exact he e n (by rw [← e1]; exact hs)
 ·have e1 : w'.shape? b = w.shape? b := by simp [World.shape?, h1, h2, h3]
  have e2 : w'.frozen? ⟨b, n, none⟩ = w.frozen? ⟨b, n, none⟩ := by simp [World.frozen?, h1, h2]
  rw [e2]; exact he e n (by rw [← e1]; exact hs)
theorem Keeps.endAt {M : Addr → Prop} {w w' : World} (h : Keeps M w w') {a : Addr} {t : Nat} (hc : (w.cell? (pl a t)).isSome = true) (he : EndFree w a.block) : EndFree w' a.block := by
 obtain ⟨u, hu⟩ := Option.isSome_iff_exists.1 hc
 exact h.endFree (show a.block < w.heap.size from World.block_lt_of_cell? w (pl a t) hu) he
theorem Keeps.below {w w' : World} (h : Keeps (fun _ => False) w w') : RowKit.Below w.heap.size w w' := by
 refine ⟨h.os, h.tape, h.output, h.size, fun b hb => ?_⟩
 rcases h.block b hb with h1 | ⟨c, e, fz, c', h1, h2, h3, h4⟩
 ·exact h1
 ·rw [h1, h2]
  have : c' = c := by
   apply Array.ext_getElem?
   intro j
   exact h4 j (fun h => h)
  rw [this]
theorem Keeps.drew (M : Addr → Prop) (w : World) : Keeps M w w.drew := ⟨rfl, rfl, rfl, Nat.le_refl _, fun _ _ => .inl rfl⟩
theorem Keeps.alloc (M : Addr → Prop) (w : World) (o : Obj) : Keeps M w (w.alloc o) :=
 ⟨rfl, rfl, rfl, by simp, fun b hb => .inl (RowKit.Below.heap_alloc w o b hb)⟩
theorem Keeps.setCell {M : Addr → Prop} (w : World) {a : Addr} (v : Value) (h : M ⟨a.block, a.off, none⟩) : Keeps M w (w.setCell a v) := by
 refine ⟨rfl, rfl, rfl, by simp, fun b hb => ?_⟩
 by_cases hb' : b = a.block
 ·subst hb'
  simp only [World.setCell, Array.getElem?_modify, if_true]
  cases hh : w.heap[a.block]? with
  | none => exact .inl rfl
  | some o =>
   cases o with
   | cells c e fz =>
    refine .inr ⟨c, e, fz, _, rfl, rfl, ?_, fun j hj => ?_⟩
    ·split <;> simp
    ·split
     ·rfl
     ·have : a.off ≠ j := fun e => hj (e ▸ h)
      simp [this]
   | _ => exact .inl rfl
 ·exact .inl (RowKit.Below.heap_setCell w a v b hb')
structure Ext (g g' : Gh) : Prop where
 loc : ∀ id, g.loc id ≠ .none → g'.loc id = g.loc id
 L : ∀ b p, g.L b p → g'.L b p
 fv : g'.fv = g.fv
 nz : ∀ b p, b ≠ 0 → g'.L b p → g.L b p
theorem Ext.refl (g : Gh) : Ext g g := ⟨fun _ _ => rfl, fun _ _ h => h, rfl, fun _ _ _ h => h⟩
theorem Ext.trans {a b c : Gh} (h : Ext a b) (k : Ext b c) : Ext a c :=
 ⟨fun id hn => by rw [k.loc id (by rw [h.loc id hn]; exact hn), h.loc id hn], fun b p hp => k.L b p (h.L b p hp), k.fv.trans h.fv, fun b p hb hp => h.nz b p hb (k.nz b p hb hp)⟩
theorem SM.ext {g g' : Gh} (h : Ext g g') {m : List Nat} {p : Addr} (hp : SM g.L m p) : SM g'.L m p := let ⟨b, hb, hl⟩ := hp; ⟨b, hb, h.L b p hl⟩
theorem CR.ext {g g' : Gh} {w w' : World} (h : Ext g g') (hw : ∀ b p, g.L b p → w'.cell? p = w.cell? p) : ∀ (c : C) (v : Value), CR g w c v → CR g' w' c v
 | .int k n, v, hc => hc
 | .bool b, v, hc => hc
 | .str s, v, hc => hc
 | .nil, v, hc => hc
 | .slv m k xs, v, hc => ER.mono (fun p hp => hp.ext h) (fun p ⟨b, _, hp⟩ => hw b p hp) _ _ _ hc
 | .own _ _ _ _, v, hc => hc
 | .slo id, v, ⟨A, n, c, e, hv⟩ => ⟨A, n, c, by rw [h.loc id (by rw [e]; simp), e], hv⟩
 | .bptr id off, v, ⟨a, e, hv⟩ => ⟨a, by rw [h.loc id (by rw [e]; simp), e], hv⟩
 | .aptr id, v, ⟨a, n, c, e, hv⟩ => ⟨a, n, c, by rw [h.loc id (by rw [e]; simp), e], hv⟩
 | .eptr id i sz off, v, ⟨a, n, c, e, hi, hv⟩ => ⟨a, n, c, by rw [h.loc id (by rw [e]; simp), e], hi, hv⟩
 | .rptr m k x off, v, ⟨a, us, hv, he, hc⟩ => ⟨a, us, hv, ER.mono (fun p hp => hp.ext h) (fun p ⟨b, _, hp⟩ => hw b p hp) _ _ _ he, fun j u hu => by
   obtain ⟨h1, b, hb, hl⟩ := hc j u hu
   exact ⟨by rw [hw b _ hl]; exact h1, b, hb, h.L _ _ hl⟩⟩
 | .fn f, v, hc => hc
 | .clo f id, v, ⟨us, e, hv⟩ => ⟨us, by rw [h.loc id (by rw [e]; simp), e], hv⟩
 | .fv j, v, hc => by show v = g'.fv j ∧ _; rw [h.fv]; exact hc
 | .undef, v, hc => trivial
theorem V1R.ext {g g' : Gh} {w w' : World} (h : Ext g g') (hw : ∀ b p, g.L b p → w'.cell? p = w.cell? p) : ∀ (c : V1) (v : Value), V1R g w c v → V1R g' w' c v
 | .one c, v, hc => CR.ext h hw c v hc
 | .agg cs, v, ⟨us, e, hc⟩ => ⟨us, e, F2.mono (CR.ext h hw) hc⟩
 | .vec n k xs, v, ⟨us, e, hn, hf, hc⟩ => ⟨us, e, hn, hf, Rows2.mono (fun a b => ER.flat k a b hf) hc⟩
theorem TVR.ext {g g' : Gh} {w w' : World} (h : Ext g g') (hw : ∀ b p, g.L b p → w'.cell? p = w.cell? p) : ∀ (c : TV) (v : Value), TVR g w c v → TVR g' w' c v
 | .v x, v, hc => V1R.ext h hw x v hc
 | .tup xs, v, ⟨us, e, hc⟩ => ⟨us, e, F2.mono (V1R.ext h hw) hc⟩
inductive TC | err | u64 (n : Int) | i64
def tabs : List (Nat × List TC) := [(0, [.i64]), (1, [.err]), (2, [.err]), (3, [.u64 1, .u64 10, .u64 100, .u64 1000, .u64 10000, .u64 100000, .u64 1000000, .u64 10000000, .u64 100000000, .u64 1000000000, .u64 10000000000, .u64 100000000000, .u64 1000000000000, .u64 10000000000000, .u64 100000000000000, .u64 1000000000000000, .u64 10000000000000000, .u64 100000000000000000, .u64 1000000000000000000, .u64 10000000000000000000])]
def TabC : TC → Value → Prop
 | .err, v => v = .nilIface ∨ ∃ te pe, v = .iface te pe
 | .u64 n, v => v = .int .u64 n
 | .i64, v => ∃ n, v = .int .i64 n
def Tab (S : Addr → Prop) (w : World) : Prop := ∀ x ∈ tabs, ∀ (j : Nat) c, x.2[j]? = some c → S ⟨x.1, j, none⟩ ∧ ∃ v, w.cell? ⟨x.1, j, none⟩ = some v ∧ TabC c v
theorem Tab.mono {S S' : Addr → Prop} {w w' : World} (h : Tab S w) (hs : ∀ p, S p → S' p) (hw : ∀ p, S p → w'.cell? p = w.cell? p) : Tab S' w' := fun x hx j c hc => by
 obtain ⟨h1, v, h2, h3⟩ := h x hx j c hc
 exact ⟨hs _ h1, v, by rw [hw _ h1]; exact h2, h3⟩
def TabZ (w : World) : Prop := ∀ x ∈ tabs, ∃ e, w.shape? x.1 = some (e, x.2.length)
theorem Keeps.shape {M : Addr → Prop} {w w' : World} (h : Keeps M w w') {b e n : Nat} (hs : w.shape? b = Option.some (e, n)) : w'.shape? b = Option.some (e, n) := by
 have hb : b < w.heap.size := by
  rcases Nat.lt_or_ge b w.heap.size with h | h
  ·exact h
  ·simp [World.shape?, Array.getElem?_eq_none h] at hs
 rcases h.block _ hb with h1 | ⟨c, e', fz, c', h1, h2, h3, h4⟩
 ·simp only [World.shape?, h1] at hs ⊢; exact hs
 ·simp only [World.shape?, h1, h2] at hs ⊢; rw [h3]; exact hs
theorem TabZ.keep {M : Addr → Prop} {w w' : World} (h : TabZ w) (hk : Keeps M w w') : TabZ w' := fun x hx => by
 obtain ⟨e, he⟩ := h x hx
 exact ⟨e, hk.shape he⟩
structure Inv (M0 : Addr → Prop) (w0 : World) (g : Gh) (H : Nat → Option Ob) (w : World) : Prop where
 ob : ∀ id o, H id = some o → ObR g w id o
 dj : ∀ i j o o' p, i ≠ j → H i = some o → H j = some o' → MR g i o p → ¬ MR g j o' p
 st : ∀ i o p b, H i = some o → MR g i o p → ¬ g.L b p
 al : ∀ i o p, H i = some o → MR g i o p → M0 p ∨ w0.heap.size ≤ p.block
 no : ∀ i, H i = none → g.loc i = .none
 lt : ∀ b p, g.L b p → p.block < w.heap.size ∧ p.spot = none
 l0 : ∀ p, g.L 0 p → M0 p ∨ w0.heap.size ≤ p.block
 keep : Keeps M0 w0 w
 tz : TabZ w
theorem ObR.loc {g : Gh} {w : World} {id : Nat} : ∀ {o : Ob}, ObR g w id o → g.loc id ≠ .none
 | .box cs, ⟨a, us, e, _⟩ => by rw [e]; simp
 | .arr k xs m x, ⟨A, n, c, us, e, _⟩ => by rw [e]; simp
 | .vec n k xs, ⟨a, us, e, _⟩ => by rw [e]; simp
 | .clo caps, ⟨us, e, _⟩ => by rw [e]; simp
 | .cbox m cs, ⟨a, us, e, _⟩ => by rw [e]; simp
 | .dead, h => h
theorem MR.ext {g g' : Gh} (h : Ext g g') {id : Nat} (hn : g.loc id ≠ .none) (o : Ob) (p : Addr) : MR g' id o p ↔ MR g id o p := by
 have := h.loc id hn
 cases o <;> simp only [MR, this]
theorem MR.cell {g : Gh} {w : World} {id : Nat} : ∀ {o : Ob} {p : Addr}, ObR g w id o → MR g id o p → (w.cell? p).isSome = true ∧ w.frozen? p = false
 | .box cs, p, ⟨a, us, e, h1, h2⟩, ⟨a', j, e', hj, hp⟩ => by
  rw [e] at e'; cases e'; subst hp
  obtain ⟨u, hu, _⟩ := F2.get h1 j _ (List.getElem?_eq_getElem hj)
  exact ⟨by rw [(h2 j u hu).1]; rfl, (h2 j u hu).2⟩
 | .arr k xs m x, p, ⟨A, n, c, us, e, h1, h2, h3, h4⟩, ⟨a', n', c', j, e', hj, hj', hp⟩ => by
  rw [e] at e'; cases e'; subst hp
  rcases h4 with h4 | ⟨a, ea, hsp, _, h5, _⟩
  ·subst h4; simp at hj'
  ·cases ea; exact h5 j hj'
 | .vec n k xs, p, ⟨a, us, e, h1, hf, h2, h3⟩, ⟨a', c', j, e', hj, hp⟩ => by
  rw [e] at e'; cases e'; subst hp
  have hl := Rows2.len (ER.len k) h2
  have : j < us.length := by rw [hl, h1]; exact hj
  have := h3 j _ (List.getElem?_eq_getElem this)
  exact ⟨by rw [this.1]; rfl, this.2⟩
 | .clo caps, p, _, h => h.elim
 | .cbox m cs, p, _, h => h.elim
 | .dead, p, _, h => h.elim
theorem MR.lt {g : Gh} {w : World} {id : Nat} {o : Ob} {p : Addr} (h : ObR g w id o) (hm : MR g id o p) : p.block < w.heap.size := by
 obtain ⟨u, hu⟩ := Option.isSome_iff_exists.1 (MR.cell h hm).1
 exact World.block_lt_of_cell? w p hu
theorem MR.spot {g : Gh} {id : Nat} : ∀ {o : Ob} {p : Addr}, MR g id o p → p = ⟨p.block, p.off, none⟩
 | .box cs, p, ⟨a, j, _, _, hp⟩ => by subst hp; rfl
 | .arr k xs m x, p, ⟨_, _, _, _, _, _, _, hp⟩ => by subst hp; rfl
 | .vec n k xs, p, ⟨_, _, _, _, _, hp⟩ => by subst hp; rfl
 | .clo caps, p, h => h.elim
 | .cbox m cs, p, h => h.elim
 | .dead, p, h => h.elim
theorem ObR.ext {g g' : Gh} {w w' : World} (h : Ext g g') (hw : ∀ b p, g.L b p → w'.cell? p = w.cell? p) {id : Nat} : ∀ {o : Ob}, (∀ p, MR g id o p → w'.cell? p = w.cell? p ∧ w'.frozen? p = w.frozen? p) →
  (∀ p, (w.cell? p).isSome = true → (w'.cell? p).isSome = true ∧ w'.frozen? p = w.frozen? p) → (∀ b, b < w.heap.size → EndFree w b → EndFree w' b) → ObR g w id o → ObR g' w' id o
 | .box cs, hm, hs, hE, ⟨a, us, e, h1, h2⟩ => ⟨a, us, by rw [h.loc id (by rw [e]; simp), e], F2.mono (CR.ext h hw) h1, fun j u hu => by
   have hj : j < cs.length := by
    rw [h1.len]
    rcases Nat.lt_or_ge j us.length with h | h
    ·exact h
    ·simp [List.getElem?_eq_none h] at hu
   have := hm (pl a j) ⟨a, j, e, hj, rfl⟩
   rw [this.1, this.2]
   exact h2 j u hu⟩
 | .arr k xs m x, hm, hs, hE, ⟨A, n, c, us, e, h1, h2, h3, h4⟩ => by
  refine ⟨A, n, c, us, by rw [h.loc id (by rw [e]; simp), e], h1, h2, Rows2.mono (ER.mono (fun p hp => hp.ext h) (fun p ⟨b, _, hp⟩ => hw b p hp) k) h3, ?_⟩
  by_cases h8 : c = 0
  ·exact .inl h8
  rcases h4 with h4 | ⟨a, ea, hsp, h5, h6, h7⟩
  ·exact .inl h4
  ·refine .inr ⟨a, ea, hsp, fun j u hu => ?_, fun j hj => ?_, fun hx j hj => h.L _ _ (h7.1 hx j hj), fun hk => ?_⟩
   ·have hl := Rows2.len (ER.len k) h3
    have hj : j < us.length := by
     rcases Nat.lt_or_ge j us.length with h | h
     ·exact h
     ·simp [List.getElem?_eq_none h] at hu
    have hjc : j < c * k.size := by
     rw [hl, h1] at hj
     exact Nat.lt_of_lt_of_le hj (Nat.mul_le_mul_right _ h2)
    cases x with
    | true => rw [(hm (pl a j) ⟨a, n, c, j, by rw [e, ea], by simp, hjc, rfl⟩).1]; exact h5 j u hu
    | false => rw [hw 0 _ (h7.1 rfl j hj)]; exact h5 j u hu
   ·have := hs _ (h6 j hj).1
    exact ⟨this.1, this.2.trans (h6 j hj).2⟩
   ·rcases Nat.eq_zero_or_pos (c * k.size) with h0 | h0
    ·exact absurd h0 (Nat.pos_iff_ne_zero.1 (Nat.mul_pos (Nat.pos_of_ne_zero fun hc => h8 hc) (Kd.size_pos _)))
    ·obtain ⟨u, hu⟩ := Option.isSome_iff_exists.1 (h6 0 h0).1
     exact hE _ (show a.block < w.heap.size from World.block_lt_of_cell? w (pl a 0) hu) (h7.2 hk)
 | .vec n k xs, hm, hs, hE, ⟨a, us, e, h1, hf, h2, h3⟩ => ⟨a, us, by rw [h.loc id (by rw [e]; simp), e], h1, hf, Rows2.mono (fun a b => ER.flat k a b hf) h2, fun j u hu => by
   have hl := Rows2.len (ER.len k) h2
   have hj : j < us.length := by
    rcases Nat.lt_or_ge j us.length with h | h
    ·exact h
    ·simp [List.getElem?_eq_none h] at hu
   have := hm (pl a j) ⟨a, n, j, e, by rw [hl, h1] at hj; exact hj, rfl⟩
   rw [this.1, this.2]
   exact h3 j u hu⟩
 | .clo caps, hm, hs, hE, ⟨us, e, h1⟩ => ⟨us, by rw [h.loc id (by rw [e]; simp), e], F2.mono (CR.ext h hw) h1⟩
 | .cbox m cs, hm, hs, hE, ⟨a, us, e, h1, h2⟩ => ⟨a, us, by rw [h.loc id (by rw [e]; simp), e], F2.mono (CR.ext h hw) h1, fun j u hu => by
   obtain ⟨h3, b, hb, hl⟩ := h2 j u hu
   exact ⟨by rw [hw b _ hl]; exact h3, b, hb, h.L _ _ hl⟩⟩
 | .dead, hm, hs, hE, e => by show g'.loc id ≠ _; rw [h.loc id e]; exact e
def Free (g : Gh) (H : Nat → Option Ob) (w : World) (D : Nat → Prop) (p : Addr) : Prop := (∃ i o, D i ∧ H i = some o ∧ MR g i o p) ∨ w.heap.size ≤ p.block
theorem Free.notL {M0 : Addr → Prop} {w0 w : World} {g : Gh} {H : Nat → Option Ob} (h : Inv M0 w0 g H w) {D : Nat → Prop} {b : Nat} {p : Addr} (hl : g.L b p) : ¬ Free g H w D p := by
 rintro (⟨i, o, _, hi, hm⟩ | hp)
 ·exact h.st i o p b hi hm hl
 ·have := (h.lt b p hl).1
  omega
theorem Inv.frame {M0 : Addr → Prop} {w0 w w' : World} {g g' : Gh} {H H' : Nat → Option Ob} (h : Inv M0 w0 g H w) (D : Nat → Prop)
  (h1 : ∀ i, ¬ D i → H' i = H i)
  (h2 : ∀ i o, D i → H' i = some o → ObR g' w' i o ∧ ∀ p, MR g' i o p → Free g H w D p)
  (h3 : ∀ i j o o' p, i ≠ j → D i → D j → H' i = some o → H' j = some o' → MR g' i o p → ¬ MR g' j o' p)
  (h4 : ∀ b p, g'.L b p → g.L b p ∨ (b = 0 ∧ Free g H w D p ∧ (p.block < w'.heap.size ∧ p.spot = none) ∧ ∀ i o, D i → H' i = some o → ¬ MR g' i o p))
  (h5 : Keeps (Free g H w D) w w') (he : Ext g g') (hn : ∀ i, H' i = none → g'.loc i = .none) :
  Inv M0 w0 g' H' w' ∧ (∀ b p, g.L b p → w'.cell? p = w.cell? p) := by
 have hw : ∀ b p, g.L b p → w'.cell? p = w.cell? p := fun b p hl => h5.cell (h.lt b p hl).1 (by rw [show (⟨p.block, p.off, none⟩ : Addr) = p from by have := (h.lt b p hl).2; cases p; simp_all]; exact Free.notL h hl)
 have hold : ∀ i o, ¬ D i → H i = some o → ∀ p, MR g i o p → ¬ Free g H w D p := by
  rintro i o hd hi p hm (⟨j, o', hj, hj', hm'⟩ | hp)
  ·exact h.dj i j o o' p (fun e => hd (e ▸ hj)) hi hj' hm hm'
  ·have := MR.lt (h.ob i o hi) hm
   omega
 have hmr : ∀ i o, ¬ D i → H i = some o → ∀ p, (MR g' i o p ↔ MR g i o p) := fun i o hd hi p => MR.ext he (ObR.loc (h.ob i o hi)) o p
 have hfree : ∀ p, Free g H w D p → M0 p ∨ w0.heap.size ≤ p.block := by
  rintro p (⟨i, o, _, hi, hm⟩ | hp)
  ·exact h.al i o p hi hm
  ·exact .inr (Nat.le_trans h.keep.size hp)
 refine ⟨⟨?_, ?_, ?_, ?_, hn, ?_, ?_, ?_, h.tz.keep h5⟩, hw⟩
 ·intro i o hi
  by_cases hd : D i
  ·exact (h2 i o hd hi).1
  ·rw [h1 i hd] at hi
   refine ObR.ext he hw (fun p hm => ?_) (fun p hp => ?_) (fun b hb hf => h5.endFree hb hf) (h.ob i o hi)
   ·have hlt := MR.lt (h.ob i o hi) hm
    have hnf := hold i o hd hi p hm
    rw [MR.spot hm] at hnf
    exact ⟨h5.cell hlt hnf, h5.frozen hlt⟩
   ·refine ⟨h5.some hp, ?_⟩
    obtain ⟨u, hu⟩ := Option.isSome_iff_exists.1 hp
    exact h5.frozen (World.block_lt_of_cell? w p hu)
 ·intro i j o o' p hij hi hj hm hm'
  by_cases hd : D i <;> by_cases hd' : D j
  ·exact h3 i j o o' p hij hd hd' hi hj hm hm'
  ·rw [h1 j hd'] at hj
   exact hold j o' hd' hj p ((hmr j o' hd' hj p).1 hm') ((h2 i o hd hi).2 p hm)
  ·rw [h1 i hd] at hi
   exact hold i o hd hi p ((hmr i o hd hi p).1 hm) ((h2 j o' hd' hj).2 p hm')
  ·rw [h1 i hd] at hi
   rw [h1 j hd'] at hj
   exact h.dj i j o o' p hij hi hj ((hmr i o hd hi p).1 hm) ((hmr j o' hd' hj p).1 hm')
 ·intro i o p b hi hm hl
  rcases h4 b p hl with hl | ⟨_, hf, _, hno⟩
  ·by_cases hd : D i
   ·exact Free.notL h hl ((h2 i o hd hi).2 p hm)
   ·rw [h1 i hd] at hi
    exact h.st i o p b hi ((hmr i o hd hi p).1 hm) hl
  ·by_cases hd : D i
   ·exact hno i o hd hi hm
   ·rw [h1 i hd] at hi
    exact hold i o hd hi p ((hmr i o hd hi p).1 hm) hf
 ·intro i o p hi hm
  by_cases hd : D i
  ·exact hfree p ((h2 i o hd hi).2 p hm)
  ·rw [h1 i hd] at hi
   exact h.al i o p hi ((hmr i o hd hi p).1 hm)
 ·intro b p hl
  rcases h4 b p hl with hl | ⟨_, _, hlt, _⟩
  ·exact ⟨Nat.lt_of_lt_of_le (h.lt b p hl).1 h5.size, (h.lt b p hl).2⟩
  ·exact hlt
 ·intro p hl
  rcases h4 0 p hl with hl | ⟨_, hf, _, _⟩
  ·exact h.l0 p hl
  ·exact hfree p hf
 ·refine h.keep.trans' h5 fun p hp hf => ?_
  rcases hfree p hf with hf | hf
  ·exact hf
  ·omega
end Go.Proofs.YtdhifkdijlghdaaGreatDoorA
