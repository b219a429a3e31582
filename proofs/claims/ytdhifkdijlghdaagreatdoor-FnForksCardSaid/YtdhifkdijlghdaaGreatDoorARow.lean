/-
  A law's arguments: what data read as; a law's call out of its function's contract. No condition.
-/
import Derived.Test.YtdhifkdijlghdaaGreatDoorAWord
import Derived.SizedLaws
import Derived.ChangeSlices
import Derived.ChangeArms
import Derived.DataReads
import Derived.DataElems
namespace Go.Proofs.YtdhifkdijlghdaaGreatDoorA
open Go
set_option linter.unusedVariables false
set_option linter.unusedSimpArgs false
variable {P : Program}
def Old (W : World) (p : Addr) : Prop := (W.cell? p).isSome = true ∧ p.spot = none
def RdF (P : Program) (t : TypeId) (k : Kd) (V : El k → Prop) (n : Nat) : Prop :=
 ∀ (fuel : Nat), fuel ≤ n → ∀ {H : Type} (enc : TypeId × Value → H) (W : World) (base : Nat) (spare : Nat → Bool) (held : Bool) (cs : List Value) (x : DataW H × List MemPlace),
  DataW.trod enc P W base spare held fuel t cs = some x → (∀ m ∈ x.1.weights P t, m ≤ reachBytes) → ∃ a : El k, ER W (Old W) k a cs ∧ V a
def Rd (P : Program) (t : TypeId) (k : Kd) (V : El k → Prop) : Prop := ∀ n, RdF P t k V n
theorem RdF.mono {t : TypeId} {k : Kd} {V : El k → Prop} {n m : Nat} (h : RdF P t k V n) (hm : m ≤ n) : RdF P t k V m := fun fuel hf => h fuel (Nat.le_trans hf hm)
theorem rd_int {t : TypeId} {k : IntKind} (hu : P.underlying t = some (.int k)) : Rd P t (.int k) (fun n => (Lit.int k n).wf = true) := by
 intro n fuel hf H enc W base spare held cs x hx hw
 obtain ⟨a, rfl, rfl, h⟩ := DataW.trod_int hu hx
 exact ⟨a, rfl, h⟩
theorem rd_bool {t : TypeId} (hu : P.underlying t = some .bool) : Rd P t .bool (fun _ => True) := by
 intro n fuel hf H enc W base spare held cs x hx hw
 obtain ⟨a, rfl, rfl⟩ := DataW.trod_bool hu hx
 exact ⟨a, rfl, trivial⟩
theorem rd_string {t : TypeId} (hu : P.underlying t = some .string) : Rd P t .str (fun s => s.size ≤ 140737488351232) := by
 intro n fuel hf H enc W base spare held cs x hx hw
 obtain ⟨a, rfl, rfl, h⟩ := DataW.trod_string hu hx
 refine ⟨a, rfl, ?_⟩
 have h1 := hw a.data.toList.length (by simp [DataW.weights])
 have h2 : a.data.toList.length = a.size := by rw [Array.length_toList]; rfl
 rw [h2] at h1
 exact h1
theorem weights_in_all {H : Type} {e : TypeId} : ∀ {ds : List (DataW H)} {d : DataW H}, d ∈ ds → ∀ m ∈ d.weights P e, m ∈ DataW.weightsAll P e ds
 | d0 :: r, d, hd, m, hm => by
  simp only [DataW.weightsAll, List.mem_append]
  rcases List.mem_cons.1 hd with rfl | hd
  ·exact .inl hm
  ·exact .inr (weights_in_all hd m hm)
theorem list_of {α : Type} {R : Nat → α → Prop} : ∀ (n : Nat), (∀ i, i < n → ∃ a, R i a) → ∃ l : List α, l.length = n ∧ ∀ i a, l[i]? = some a → R i a
 | 0, _ => ⟨[], rfl, fun i a h => by simp at h⟩
 | n + 1, h => by
  obtain ⟨l, hl, hr⟩ := list_of n (fun i hi => h i (by omega))
  obtain ⟨a, ha⟩ := h n (by omega)
  refine ⟨l ++ [a], by simp [hl], fun i b hb => ?_⟩
  rcases Nat.lt_or_ge i l.length with hi | hi
  ·rw [List.getElem?_append_left hi] at hb
   exact hr i b hb
  ·have hi2 : i < (l ++ [a]).length := (List.getElem?_eq_some_iff.1 hb).1
   have : i = n := by simp at hi2; omega
   subst this
   rw [List.getElem?_append_right hi, hl, Nat.sub_self] at hb
   simp at hb
   subst hb
   exact ha
theorem rows_of {α : Type} {R : α → List Value → Prop} {z : Nat} (hz : ∀ a u, R a u → u.length = z) : ∀ (l : List α) (c : Nat → List Value), (∀ (i : Nat) (a : α), l[i]? = some a → R a (c i)) → ∃ us, Rows2 R l us ∧ ∀ (q : Nat) (u : Value), us[q]? = some u → ∃ i j, q = i * z + j ∧ i < l.length ∧ j < z ∧ (c i)[j]? = some u
 | [], c, _ => ⟨[], rfl, fun q u h => by simp at h⟩
 | a :: l, c, h => by
  obtain ⟨us, h1, h2⟩ := rows_of hz l (fun i => c (i + 1)) (fun i b hb => h (i + 1) b (by simpa using hb))
  have h0 := h 0 a rfl
  have hl := hz _ _ h0
  refine ⟨c 0 ++ us, ⟨c 0, us, rfl, h0, h1⟩, fun q u hq => ?_⟩
  rcases Nat.lt_or_ge q (c 0).length with hlt | hge
  ·rw [List.getElem?_append_left hlt] at hq
   exact ⟨0, q, by simp, by simp, by omega, hq⟩
  ·rw [List.getElem?_append_right hge] at hq
   obtain ⟨i, j, e1, e2, e3, e4⟩ := h2 _ u hq
   refine ⟨i + 1, j, ?_, by simp; omega, e3, e4⟩
   rw [Nat.succ_mul]
   omega
theorem spot_of_cell {W : World} {p : Addr} {u : Value} (h : W.cell? p = some u) : p.spot = none := by
 by_cases hs : p.spot = none
 ·exact hs
 ·exfalso
  unfold World.cell? at h
  split at h
  ·split at h
   ·simp at h
   ·rename_i hh
    cases hp : p.spot with
    | none => exact hs hp
    | some q => rw [hp] at hh; simp at hh
  ·simp at h
theorem rdF_slice {t e : TypeId} {k : Kd} {V : El k → Prop} {n B : Nat} (hu : P.underlying t = some (.slice e)) (hc : P.cellsOf e = k.size) (hb : P.bytesOf e = B) (h : RdF P e k V n) :
  RdF P t (.list k) (fun l => l.length * B ≤ 140737488351232 ∧ l.length ≤ maxLen ∧ ∀ x ∈ l, V x) n := by
 intro fuel hf H enc W base spare held cs x hx hw
 rcases DataW.trod_slice hu hx with ⟨rfl, rfl⟩ | ⟨a, len, cap, elems, rest, m, rfl, rfl, rfl, _, hl, hm, hlen, hel, _, _⟩
 ·exact ⟨[], ⟨none, 0, 0, [], rfl, rfl, Nat.le_refl _, rfl, .inl rfl⟩, by simp, by simp, fun x hx => by cases hx⟩
 ·have hwt := hw ((elems.map (·.1)).length + (rest.map (·.1)).length |> (· * P.bytesOf e)) (by simp [DataW.weights, hu])
  have hlb : len * B ≤ 140737488351232 := by
   rw [hb] at hwt
   simp only [List.length_map, hlen] at hwt
   exact Nat.le_trans (Nat.mul_le_mul_right _ (Nat.le_add_right _ _)) hwt
  obtain ⟨l, hll, hr⟩ := list_of (R := fun i (b : El k) => V b ∧ ∃ c : List Value, ER W (Old W) k b c ∧ ∀ j u, c[j]? = some u → W.cell? (a.add (i * k.size + j)) = some u) len (fun i hi => by
   have h0 := hel i hi
   obtain ⟨y, hy⟩ : ∃ y, elems[i]? = some y := ⟨_, List.getElem?_eq_getElem (by omega)⟩
   rw [hy] at h0
   obtain ⟨c, hc1, hc2⟩ := Option.bind_eq_some_iff.1 h0
   have hmem : y.1 ∈ elems.map (·.1) := List.mem_map.2 ⟨y, List.mem_of_getElem? hy, rfl⟩
   obtain ⟨b, hb1, hb2⟩ := h m (by omega) enc W base spare held c y hc2 (fun q hq => hw q (by
    simp only [DataW.weights, hu, List.mem_cons, List.mem_append]
    exact .inr (.inl (weights_in_all hmem q hq))))
   obtain ⟨_, k1, k2⟩ := World.cells?_some hc1
   rw [hc] at k1 k2
   refine ⟨b, hb2, c, hb1, fun j u hu => ?_⟩
   have hj : j < k.size := by have := (List.getElem?_eq_some_iff.1 hu).1; omega
   rw [← Addr.add_add, k2 j hj]
   exact hu)
  have hmax : len ≤ maxLen := Nat.le_trans hl hm
  refine ⟨l, ?_, by rw [hll]; exact hlb, by rw [hll]; exact hmax, fun x hx => ?_⟩
  ·have hch : ∀ i, ∃ c : List Value, ∀ b, l[i]? = some b → ER W (Old W) k b c ∧ ∀ j u, c[j]? = some u → W.cell? (a.add (i * k.size + j)) = some u := fun i => by
    cases hi : l[i]? with
    | none => exact ⟨[], fun b hb => by simp at hb⟩
    | some b =>
     obtain ⟨_, c, h1, h2⟩ := hr i b hi
     exact ⟨c, fun b' hb' => by cases hb'; exact ⟨h1, h2⟩⟩
   obtain ⟨us, hu1, hu2⟩ := rows_of (ER.len k) l (fun i => (hch i).choose) (fun i b hb => ((hch i).choose_spec b hb).1)
   refine ⟨some a, len, cap, us, rfl, hll, hl, hu1, ?_⟩
   rcases Nat.eq_zero_or_pos l.length with h0 | h0
   ·left
    have : l = [] := List.length_eq_zero_iff.1 h0
    subst this
    exact hu1
   ·have hspot : a.spot = none := by
     obtain ⟨b, hb⟩ : ∃ b, l[0]? = some b := ⟨_, List.getElem?_eq_getElem h0⟩
     have h5 := (hch 0).choose_spec b hb
     have h6 := ER.len k _ _ h5.1
     have h7 := Kd.size_pos k
     have := h5.2 0 _ (List.getElem?_eq_getElem (by omega))
     have h8 := spot_of_cell this
     simpa [Addr.add] using h8
    refine .inr ⟨a, rfl, hspot, fun q u hq => ?_⟩
    obtain ⟨i, j, rfl, hi, hj, hcj⟩ := hu2 q u hq
    obtain ⟨b, hb⟩ : ∃ b, l[i]? = some b := ⟨_, List.getElem?_eq_getElem hi⟩
    have := ((hch i).choose_spec b hb).2 j u hcj
    rw [add_pl hspot] at this
    exact ⟨this, by rw [this]; rfl, rfl⟩
  ·obtain ⟨i, hi⟩ := List.getElem?_of_mem hx
   exact (hr i x hi).1
theorem rd_slice {t e : TypeId} {k : Kd} {V : El k → Prop} {B : Nat} (hu : P.underlying t = some (.slice e)) (hc : P.cellsOf e = k.size) (hb : P.bytesOf e = B) (h : Rd P e k V) :
  Rd P t (.list k) (fun l => l.length * B ≤ 140737488351232 ∧ l.length ≤ maxLen ∧ ∀ x ∈ l, V x) := fun n => rdF_slice hu hc hb (h n)
def Rds (P : Program) (fs : List Field) (o : Nat) (k : Kd) (V : El k → Prop) (n : Nat) : Prop :=
 ∀ (fuel : Nat), fuel ≤ n → ∀ {H : Type} (enc : TypeId × Value → H) (W : World) (base : Nat) (spare : Nat → Bool) (held : Bool) (cs : List Value) (xs : List (DataW H × List MemPlace)), cs.length = o + k.size → xs.length = fs.length →
  (∀ (i : Nat) (f : Field), fs[i]? = some f → DataW.trod enc P W base spare held fuel f.type ((cs.drop f.offset).take (P.cellsOf f.type)) = xs[i]?) →
  (∀ m ∈ DataW.weightsEach P (fs.map (·.type)) (xs.map (·.1)), m ≤ reachBytes) → ∃ a : El k, ER W (Old W) k a (cs.drop o) ∧ V a
theorem rds_one {f : Field} {o : Nat} {k : Kd} {V : El k → Prop} {n : Nat} (ho : f.offset = o) (hc : P.cellsOf f.type = k.size) (h : RdF P f.type k V n) : Rds P [f] o k V n := by
 intro fuel hf H enc W base spare held cs xs hl hx hall hw
 obtain ⟨y, rfl⟩ : ∃ y, xs = [y] := by
  match xs, hx with
  | [y], _ => exact ⟨y, rfl⟩
 have h0 := hall 0 f rfl
 rw [ho, hc, List.take_of_length_le (by rw [List.length_drop]; omega)] at h0
 exact h fuel hf enc W base spare held _ y h0 (fun m hm => hw m (by simp [DataW.weightsEach, hm]))
theorem rds_cons {f : Field} {fs : List Field} {o : Nat} {k0 k1 : Kd} {V0 : El k0 → Prop} {V1 : El k1 → Prop} {n : Nat} (ho : f.offset = o) (hc : P.cellsOf f.type = k0.size) (h : RdF P f.type k0 V0 n) (hs : Rds P fs (o + k0.size) k1 V1 n) :
  Rds P (f :: fs) o (.pair k0 k1) (fun x => V0 x.1 ∧ V1 x.2) n := by
 intro fuel hf H enc W base spare held cs xs hl hx hall hw
 have hl' : cs.length = o + (k0.size + k1.size) := hl
 obtain ⟨y, ys, rfl⟩ : ∃ y ys, xs = y :: ys := by
  match xs, hx with
  | y :: ys, _ => exact ⟨y, ys, rfl⟩
 have h0 := hall 0 f rfl
 rw [ho, hc] at h0
 obtain ⟨a, ka, va⟩ := h fuel hf enc W base spare held _ y h0 (fun m hm => hw m (by simp [DataW.weightsEach, hm]))
 obtain ⟨b, kb, vb⟩ := hs fuel hf enc W base spare held cs ys (by rw [hl']; omega) (by simpa using hx) (fun i g hg => by simpa using hall (i + 1) g (by simpa using hg)) (fun m hm => hw m (by simp only [List.map_cons, DataW.weightsEach, List.mem_append]; exact .inr hm))
 refine ⟨(a, b), ⟨(cs.drop o).take k0.size, cs.drop (o + k0.size), ?_, ka, kb⟩, va, vb⟩
 rw [← List.drop_drop, List.take_append_drop]
theorem rdF_struct {t : TypeId} {fs : Array Field} {k : Kd} {V : El k → Prop} {n : Nat} (hu : P.underlying t = some (.struct fs)) (hc : P.cellsOf t = k.size) (h : Rds P fs.toList 0 k V n) : RdF P t k V (n + 1) := by
 intro fuel hf H enc W base spare held cs x hx hw
 obtain ⟨xs, m, rfl, rfl, hl, hlen, hall⟩ := DataW.trod_struct hu hx
 exact h m (by omega) enc W base spare held cs xs (by rw [hl, hc, Nat.zero_add]) (by simpa using hlen) (fun i f hf => hall i f (by simpa using hf)) (fun q hq => hw q (by simpa [DataW.weights, hu] using hq))
theorem rd_struct {t : TypeId} {fs : Array Field} {k : Kd} {V : El k → Prop} (hu : P.underlying t = some (.struct fs)) (hc : P.cellsOf t = k.size) (h : ∀ n, Rds P fs.toList 0 k V n) : Rd P t k V := fun n => (rdF_struct hu hc (h n)).mono (Nat.le_succ n)
def TrV {α : Type} (V : α → Prop) (B : Nat) : Nat → Tree α → Prop
 | 0, _ => False
 | d + 1, t => V t.val ∧ t.kids.length * B ≤ 140737488351232 ∧ t.kids.length ≤ maxLen ∧ ∀ y ∈ t.kids, TrV V B d y
theorem TrV.up {α : Type} {V : α → Prop} {B : Nat} : ∀ {d : Nat} {t : Tree α}, TrV V B d t → TrV V B (d + 1) t
 | 0, _, h => h.elim
 | d + 1, t, ⟨h1, h2, h3, h4⟩ => ⟨h1, h2, h3, fun y hy => TrV.up (h4 y hy)⟩
theorem RdF.weaken {t : TypeId} {k : Kd} {V V' : El k → Prop} {n : Nat} (h : RdF P t k V n) (hv : ∀ a, V a → V' a) : RdF P t k V' n := fun fuel hf H enc W base spare held cs x hx hw => by
 obtain ⟨a, h1, h2⟩ := h fuel hf enc W base spare held cs x hx hw
 exact ⟨a, h1, hv a h2⟩
theorem er_tree3 {w : World} {S : Addr → Prop} {a b c : Kd} {x : El (.pair a (.pair b (.pair c (.list (.tree (.pair a (.pair b c)))))))} {us : List Value}
  (h : ER w S (.pair a (.pair b (.pair c (.list (.tree (.pair a (.pair b c))))))) x us) : ER w S (.tree (.pair a (.pair b c))) (.mk (x.1, x.2.1, x.2.2.1) x.2.2.2) us := by
 obtain ⟨u1, r1, rfl, h1, u2, r2, rfl, h2, u3, r3, rfl, h3, h4⟩ := h
 exact ER.tree.2 ⟨u1 ++ (u2 ++ u3), r3, by simp, ⟨u1, _, rfl, h1, u2, u3, rfl, h2, h3⟩, h4⟩
theorem rd_tree3 {t : TypeId} {fs : Array Field} {f1 f2 f3 f4 : Field} {a b c : Kd} {V1 : El a → Prop} {V2 : El b → Prop} {V3 : El c → Prop} {B : Nat} (hu : P.underlying t = some (.struct fs)) (hfs : fs.toList = [f1, f2, f3, f4]) (hc : P.cellsOf t = a.size + (b.size + c.size) + 1)
  (o1 : f1.offset = 0) (o2 : f2.offset = a.size) (o3 : f3.offset = a.size + b.size) (o4 : f4.offset = a.size + b.size + c.size) (c1 : P.cellsOf f1.type = a.size) (c2 : P.cellsOf f2.type = b.size) (c3 : P.cellsOf f3.type = c.size) (c4 : P.cellsOf f4.type = 1)
  (r1 : Rd P f1.type a V1) (r2 : Rd P f2.type b V2) (r3 : Rd P f3.type c V3) (hs : P.underlying f4.type = some (.slice t)) (hB : P.bytesOf t = B) :
  Rd P t (.tree (.pair a (.pair b c))) (fun x => ∃ d, TrV (fun v : El (.pair a (.pair b c)) => V1 v.1 ∧ V2 v.2.1 ∧ V3 v.2.2) B d x) := by
 have key : ∀ n, RdF P t (.tree (.pair a (.pair b c))) (TrV (fun v : El (.pair a (.pair b c)) => V1 v.1 ∧ V2 v.2.1 ∧ V3 v.2.2) B n) n := by
  intro n
  induction n with
  | zero =>
   intro fuel hf H enc W base spare held cs x hx hw
   obtain ⟨xs, m, rfl, _⟩ := DataW.trod_struct hu hx
   omega
  | succ n ih =>
   have hk := rdF_slice hs (by rw [hc]; rfl) hB ih
   have hall := rds_cons o1 c1 (r1 n) (rds_cons (by rw [o2]; omega) c2 (r2 n) (rds_cons (by rw [o3]; omega) c3 (r3 n) (rds_one (by rw [o4]; omega) c4 hk)))
   intro fuel hf H enc W base spare held cs x hx hw
   obtain ⟨xs, m, rfl, rfl, hl, hlen, hal⟩ := DataW.trod_struct hu hx
   obtain ⟨y, hy, v1, v2, v3, v4⟩ := hall m (by omega) enc W base spare held cs xs (by rw [hl, hc, Nat.zero_add]; simp only [Kd.size]; omega) (by rw [hlen, ← Array.length_toList, hfs]) (fun i f hf => hal i f (by rw [← Array.getElem?_toList, hfs]; exact hf)) (fun q hq => hw q (by simpa [DataW.weights, hu, hfs] using hq))
   exact ⟨_, er_tree3 (by simpa using hy), ⟨v1, v2, v3⟩, v4⟩
 exact fun n => (key n).weaken fun x hx => ⟨n, hx⟩
theorem rd_arg {H : Type} {enc : TypeId × Value → H} {W : World} {base : Nat} {spare : Nat → Bool} {held : Bool} {t : TypeId} {k : Kd} {V : El k → Prop} {v : Value} {x : DataW H} {ps : List MemPlace} {ts : List TypeId} {ds : List (DataW H)} {j : Nat} (h : Rd P t k V)
  (hsz : (DataW.weightsEach P ts ds).all (· ≤ reachBytes) = true) (ht : ts[j]? = some t) (hd : ds[j]? = some x) (hx : DataW.Trod enc P W base spare held t v x ps) : ∃ a : El k, ER W (Old W) k a v.cells.toList ∧ V a := by
 obtain ⟨fuel, hf⟩ := hx
 exact h fuel fuel (Nat.le_refl _) enc W base spare held _ _ hf (fun m hm => by
  have := List.all_eq_true.1 hsz _ (DataW.weights_mem_each ht hd m hm)
  simpa using this)
structure AV where
 st : Bool
 k : Kd
 x : El k
def AV.arg (v : AV) : Arg := cond v.st (.v (.agg (cells [] v.k v.x))) (match cells [] v.k v.x with
 | [c] => .v (.one c)
 | _ => .v (.agg []))
def AV.R (W : World) (v : AV) (u : Value) : Prop := ER W (Old W) v.k v.x u.cells.toList ∧ if v.st then ∃ us, u = .agg us else v.k.size = 1 ∧ u.cells = #[u]
theorem inCs_app (m : Nat) : ∀ (cs cs' r r' : List C) (nid : Nat), inCs m nid cs = some (r, []) → inCs m nid cs' = some (r', []) → inCs m nid (cs ++ cs') = some (r ++ r', [])
 | [], cs', r, r', nid, h, h' => by simp [inCs] at h; subst h; exact h'
 | c :: cs, cs', r, r', nid, h, h' => by
  simp only [inCs] at h
  cases h1 : inC m nid c with
  | none => rw [h1] at h; simp at h
  | some y =>
   obtain ⟨c1, n1⟩ := y
   rw [h1] at h
   dsimp only at h
   cases h2 : inCs m (nid + n1.length) cs with
   | none => rw [h2] at h; simp at h
   | some z =>
    obtain ⟨r1, n2⟩ := z
    rw [h2] at h
    simp only [Option.some.injEq, Prod.mk.injEq, List.append_eq_nil_iff] at h
    obtain ⟨rfl, rfl, rfl⟩ := h
    have := inCs_app m cs cs' r1 r' nid (by simpa using h2) h'
    simp [inCs, h1, this]
theorem inCs_cells (m nid : Nat) : ∀ (k : Kd) (x : El k), inCs m nid (cells [] k x) = some (cells [m] k x, [])
 | .int _, _ => rfl
 | .bool, _ => rfl
 | .str, _ => rfl
 | .list _, _ => rfl
 | .pair a b, x => inCs_app m _ _ _ _ nid (inCs_cells m nid a x.1) (inCs_cells m nid b x.2)
 | .tree k, x => inCs_app m _ _ _ _ nid (inCs_cells m nid k (Tree.val x)) rfl
theorem inCs_one {m nid : Nat} {c : C} {r : List C} (h : inCs m nid [c] = some (r, [])) : ∃ c', r = [c'] ∧ inC m nid c = some (c', []) := by
 simp only [inCs] at h
 cases h1 : inC m nid c with
 | none => rw [h1] at h; simp at h
 | some y =>
  obtain ⟨c1, n1⟩ := y
  rw [h1] at h
  simp at h
  obtain ⟨rfl, rfl⟩ := h
  exact ⟨c1, rfl, rfl⟩
def gOld (W : World) : Gh := ⟨fun _ => .none, fun b p => b ≠ 0 ∧ Old W p, fun _ => undef⟩
theorem ER.old {W : World} {k : Kd} {x : El k} {us : List Value} (i : Nat) (h : ER W (Old W) k x us) : ER W (SM (gOld W).L [i + 1]) k x us := ER.mono (fun p hp => ⟨i + 1, by simp, by simp, hp⟩) (fun _ _ => rfl) k x us h
theorem enter_av {W : World} : ∀ (vs : List AV) (us : List Value), F2 (AV.R W) vs us → ∀ (i j : Nat), ∃ tvs xs, enter i 0 j (vs.map AV.arg) = some (tvs, [], xs, []) ∧ F2 (TVR (gOld W) W) tvs us
 | [], [], _, i, j => ⟨[], [], rfl, trivial⟩
 | [], _ :: _, h, _, _ => h.elim
 | _ :: _, [], h, _, _ => h.elim
 | v :: vs, u :: us, h, i, j => by
  obtain ⟨⟨st, k, x⟩, hx⟩ : ∃ w, v = w := ⟨v, rfl⟩
  subst hx
  obtain ⟨h1, h2⟩ := h.1
  have hin := inCs_cells (i + 1) 0 k x
  have hF := ER.cells k x _ (h1.old i)
  cases st with
  | true =>
   obtain ⟨as, rfl⟩ : ∃ us, u = .agg us := h2
   obtain ⟨tvs, xs, e1, e2⟩ := enter_av vs us h.2 (i + 1) j
   refine ⟨.v (.agg (cells [i + 1] k x)) :: tvs, ⟨none, ownsAt 0 []⟩ :: xs, ?_, ⟨⟨as, rfl, hF⟩, e2⟩⟩
   simp only [List.map_cons, enter, AV.arg, cond_true, enter1, hin, Option.map_some, List.length_nil, Nat.add_zero, e1, List.nil_append]
  | false =>
   obtain ⟨hs, hu⟩ : k.size = 1 ∧ u.cells = #[u] := h2
   obtain ⟨c, hc⟩ : ∃ c, cells [] k x = [c] := by
    have := cells_len [] k x
    rw [hs] at this
    match cells [] k x, this with
    | [c], _ => exact ⟨c, rfl⟩
   rw [hc] at hin
   obtain ⟨c', h3, h4⟩ := inCs_one hin
   obtain ⟨tvs, xs, e1, e2⟩ := enter_av vs us h.2 (i + 1) j
   rw [h3, hu] at hF
   refine ⟨one1 c' :: tvs, ⟨none, ownsAt 0 []⟩ :: xs, ?_, ⟨hF.1, e2⟩⟩
   simp only [List.map_cons, enter, AV.arg, hc, cond_false, enter1, h4, Option.map_some, List.length_nil, Nat.add_zero, e1, List.nil_append]
theorem law_calls {f : Nat} {fi : FI} (hF : FOk P f fi) {W : World} (hT : Tab (Old W) W) (hZ : TabZ W) {vs : List AV} {us : List Value} (hR : F2 (AV.R W) vs us) {a : fi.A} (hsem : fi.sem (vs.map AV.arg) = some a) (hout : (fi.out a).vals = [.one (.bool true)]) :
  Calls P f us.toArray W fun e W' => e = .returned (.bool true) ∧ RowKit.Below W.heap.size W W' := by
 obtain ⟨tvs, xs, e1, e2⟩ := enter_av vs us hR 0 0
 have hInv : Inv (fun _ => False) W (gOld W) (fun i => ([] : List Ob)[i]?) W := by
  refine ⟨fun i o hi => by simp at hi, fun i j o o' p _ hi => by simp at hi, fun i o p b hi => by simp at hi, fun i o p hi => by simp at hi, fun i _ => rfl, fun b p hp => ?_, fun p hp => absurd rfl hp.1, Keeps.refl _ _, hZ⟩
  obtain ⟨u, hu⟩ := Option.isSome_iff_exists.1 hp.2.1
  exact ⟨World.block_lt_of_cell? W p hu, hp.2.2⟩
 refine (hF.2 _ a hsem tvs [] xs [] e1 W (gOld W) (fun _ => False) us hInv (fun p hp => hp.1 rfl) ⟨hT.mono (fun p hp => ⟨1, by decide, hp⟩) (fun _ _ => rfl), fun j gf hj => by simp at hj⟩ e2).mono ?_
 rintro e W' ⟨rv, vs2, h2, ps, g2, rfl, hcan, hI2, hv2, _⟩
 refine ⟨?_, Keeps.below hI2.keep⟩
 unfold canon at hcan
 rw [hout] at hcan
 have : imVs id 0 [V1.one (.bool true)] = some ([.one (.bool true)], []) := rfl
 rw [this] at hcan
 dsimp only at hcan
 split at hcan
 ·simp at hcan
 ·simp only [Option.some.injEq, Prod.mk.injEq] at hcan
  obtain ⟨rfl, _⟩ := hcan
  have h3 : rv = .bool true := hv2
  rw [h3]
end Go.Proofs.YtdhifkdijlghdaaGreatDoorA
