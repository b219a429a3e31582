/-
  A law's arguments: what data read as; a law's call out of its function's contract. No condition.
-/
import Derived.Test.YtaanadbpnmcbcaaGreatDoorAWord
import Derived.SizedLaws
import Derived.ChangeSlices
import Derived.ChangeArms
import Derived.DataReads
import Derived.DataElems
namespace Go.Proofs.YtaanadbpnmcbcaaGreatDoorA
open Go
set_option linter.unusedVariables false
set_option linter.unusedSimpArgs false
variable {P : Program}
def Old (W : World) (p : Addr) : Prop := (W.cell? p).isSome = true ∧ p.spot = none
def RdF (P : Program) (t : TypeId) (k : Kd) (V : El k → Prop) (n : Nat) : Prop :=
 ∀ (fuel : Nat), fuel ≤ n → ∀ {H : Type} (enc : TypeId × Value → H) (W : World) (base : Nat) (spare : Nat → Bool) (held : Bool) (cs : List Value) (x : DataW H × List MemPlace),
  DataW.trod enc P W base spare held fuel t cs = some x → (∀ m ∈ x.1.weights P t, m ≤ reachBytes) → ∃ a : El k, ER W (Old W) k a cs ∧ V a
def Rd (P : Program) (t : TypeId) (k : Kd) (V : El k → Prop) : Prop := ∀ n, RdF P t k V n
theorem RdF.mono {t : TypeId} {k : Kd} {V : El k → Prop} {n m : Nat} (h : RdF P t k V n) (hm : m ≤ n) : RdF P t k V m := fun fuel hf => h fuel (Nat.le_trans hf hm)
theorem rd_int {t : TypeId} {k : IntKind} (hu : P.underlying t = some (.int k)) : Rd P t (.int k) (fun n => (Lit.int k n).wf = true) := by
 intro n fuel hf H enc W base spare held cs x hx hw
 obtain ⟨a, rfl, rfl, h⟩ := DataW.trod_int hu hx
 exact ⟨a, rfl, h⟩
theorem u88 {H : Type} {e : TypeId} : ∀ {ds : List (DataW H)} {d : DataW H}, d ∈ ds → ∀ m ∈ d.weights P e, m ∈ DataW.weightsAll P e ds
 | d0 :: r, d, hd, m, hm => by
  simp only [DataW.weightsAll, List.mem_append]
  rcases List.mem_cons.1 hd with rfl | hd
  ·exact .inl hm
  ·exact .inr (u88 hd m hm)
theorem w46 {α : Type} {R : Nat → α → Prop} : ∀ (n : Nat), (∀ i, i < n → ∃ a, R i a) → ∃ l : List α, l.length = n ∧ ∀ i a, l[i]? = some a → R i a
 | 0, _ => ⟨[], rfl, fun i a h => by simp at h⟩
 | n + 1, h => by
  obtain ⟨l, hl, hr⟩ := w46 n (fun i hi => h i (by omega))
  obtain ⟨a, ha⟩ := h n (by omega)
  refine ⟨l ++ [a], by simp [hl], fun i b hb => ?_⟩
  rcases Nat.lt_or_ge i l.length with hi | hi
  ·rw [List.getElem?_append_left hi] at hb
   exact hr i b hb
  ·have hi2 : i < (l ++ [a]).length := (List.getElem?_eq_some_iff.1 hb).1
   have : i = n := by simp at hi2; omega
   subst this
   rw [List.getElem?_append_right hi, hl, Nat.sub_self] at hb
   simp at hb
   subst hb
   exact ha
theorem w40 {α : Type} {R : α → List Value → Prop} {z : Nat} (hz : ∀ a u, R a u → u.length = z) : ∀ (l : List α) (c : Nat → List Value), (∀ (i : Nat) (a : α), l[i]? = some a → R a (c i)) → ∃ us, Rows2 R l us ∧ ∀ (q : Nat) (u : Value), us[q]? = some u → ∃ i j, q = i * z + j ∧ i < l.length ∧ j < z ∧ (c i)[j]? = some u
 | [], c, _ => ⟨[], rfl, fun q u h => by simp at h⟩
 | a :: l, c, h => by
  obtain ⟨us, h1, h2⟩ := w40 hz l (fun i => c (i + 1)) (fun i b hb => h (i + 1) b (by simpa using hb))
  have h0 := h 0 a rfl
  have hl := hz _ _ h0
  refine ⟨c 0 ++ us, ⟨c 0, us, rfl, h0, h1⟩, fun q u hq => ?_⟩
  rcases Nat.lt_or_ge q (c 0).length with hlt | hge
  ·rw [List.getElem?_append_left hlt] at hq
   exact ⟨0, q, by simp, by simp, by omega, hq⟩
  ·rw [List.getElem?_append_right hge] at hq
   obtain ⟨i, j, e1, e2, e3, e4⟩ := h2 _ u hq
   refine ⟨i + 1, j, ?_, by simp; omega, e3, e4⟩
   rw [Nat.succ_mul]
   omega
theorem v78 {W : World} {p : Addr} {u : Value} (h : W.cell? p = some u) : p.spot = none := by
 by_cases hs : p.spot = none
 ·exact hs
 ·exfalso
  unfold World.cell? at h
  split at h
  ·split at h
   ·simp at h
   ·rename_i hh
    cases hp : p.spot with
    | none => exact hs hp
    | some q => rw [hp] at hh; simp at hh
  ·simp at h
theorem w76 {t e : TypeId} {k : Kd} {V : El k → Prop} {n B : Nat} (hu : P.underlying t = some (.slice e)) (hc : P.cellsOf e = k.size) (hb : P.bytesOf e = B) (h : RdF P e k V n) :
  RdF P t (.list k) (fun l => l.length * B ≤ 140737488351232 ∧ l.length ≤ maxLen ∧ ∀ x ∈ l, V x) n := by
 intro fuel hf H enc W base spare held cs x hx hw
 rcases DataW.trod_slice hu hx with ⟨rfl, rfl⟩ | ⟨a, len, cap, elems, rest, m, rfl, rfl, rfl, _, hl, hm, hlen, hel, _, _⟩
 ·exact ⟨[], ⟨none, 0, 0, [], rfl, rfl, Nat.le_refl _, rfl, .inl rfl⟩, by simp, by simp, fun x hx => by cases hx⟩
 ·have hwt := hw ((elems.map (·.1)).length + (rest.map (·.1)).length |> (· * P.bytesOf e)) (by simp [DataW.weights, hu])
  have hlb : len * B ≤ 140737488351232 := by
   rw [hb] at hwt
   simp only [List.length_map, hlen] at hwt
   exact Nat.le_trans (Nat.mul_le_mul_right _ (Nat.le_add_right _ _)) hwt
  obtain ⟨l, hll, hr⟩ := w46 (R := fun i (b : El k) => V b ∧ ∃ c : List Value, ER W (Old W) k b c ∧ ∀ j u, c[j]? = some u → W.cell? (a.add (i * k.size + j)) = some u) len (fun i hi => by
   have h0 := hel i hi
   obtain ⟨y, hy⟩ : ∃ y, elems[i]? = some y := ⟨_, List.getElem?_eq_getElem (by omega)⟩
   rw [hy] at h0
   obtain ⟨c, hc1, hc2⟩ := Option.bind_eq_some_iff.1 h0
   have hmem : y.1 ∈ elems.map (·.1) := List.mem_map.2 ⟨y, List.mem_of_getElem? hy, rfl⟩
   obtain ⟨b, hb1, hb2⟩ := h m (by omega) enc W base spare held c y hc2 (fun q hq => hw q (by
    simp only [DataW.weights, hu, List.mem_cons, List.mem_append]
    exact .inr (.inl (u88 hmem q hq))))
   obtain ⟨_, k1, k2⟩ := World.cells?_some hc1
   rw [hc] at k1 k2
   refine ⟨b, hb2, c, hb1, fun j u hu => ?_⟩
   have hj : j < k.size := by have := (List.getElem?_eq_some_iff.1 hu).1; omega
   rw [← Addr.add_add, k2 j hj]
   exact hu)
  have hmax : len ≤ maxLen := Nat.le_trans hl hm
  refine ⟨l, ?_, by rw [hll]; exact hlb, by rw [hll]; exact hmax, fun x hx => ?_⟩
  ·have hch : ∀ i, ∃ c : List Value, ∀ b, l[i]? = some b → ER W (Old W) k b c ∧ ∀ j u, c[j]? = some u → W.cell? (a.add (i * k.size + j)) = some u := fun i => by
    cases hi : l[i]? with
    | none => exact ⟨[], fun b hb => by simp at hb⟩
    | some b =>
     obtain ⟨_, c, h1, h2⟩ := hr i b hi
     exact ⟨c, fun b' hb' => by cases hb'; exact ⟨h1, h2⟩⟩
   obtain ⟨us, hu1, hu2⟩ := w40 (ER.len k) l (fun i => (hch i).choose) (fun i b hb => ((hch i).choose_spec b hb).1)
   refine ⟨some a, len, cap, us, rfl, hll, hl, hu1, ?_⟩
   rcases Nat.eq_zero_or_pos l.length with h0 | h0
   ·left
    have : l = [] := List.length_eq_zero_iff.1 h0
    subst this
    exact hu1
   ·have hspot : a.spot = none := by
     obtain ⟨b, hb⟩ : ∃ b, l[0]? = some b := ⟨_, List.getElem?_eq_getElem h0⟩
     have h5 := (hch 0).choose_spec b hb
     have h6 := ER.len k _ _ h5.1
     have h7 := Kd.size_pos k
     have := h5.2 0 _ (List.getElem?_eq_getElem (by omega))
     have h8 := v78 this
     simpa [Addr.add] using h8
    refine .inr ⟨a, rfl, hspot, fun q u hq => ?_⟩
    obtain ⟨i, j, rfl, hi, hj, hcj⟩ := hu2 q u hq
    obtain ⟨b, hb⟩ : ∃ b, l[i]? = some b := ⟨_, List.getElem?_eq_getElem hi⟩
    have := ((hch i).choose_spec b hb).2 j u hcj
    rw [u7a hspot] at this
    exact ⟨this, by rw [this]; rfl, rfl⟩
  ·obtain ⟨i, hi⟩ := List.getElem?_of_mem hx
   exact (hr i x hi).1
theorem vd2 {t e : TypeId} {k : Kd} {V : El k → Prop} {B : Nat} (hu : P.underlying t = some (.slice e)) (hc : P.cellsOf e = k.size) (hb : P.bytesOf e = B) (h : Rd P e k V) :
  Rd P t (.list k) (fun l => l.length * B ≤ 140737488351232 ∧ l.length ≤ maxLen ∧ ∀ x ∈ l, V x) := fun n => w76 hu hc hb (h n)
theorem rd_arg {H : Type} {enc : TypeId × Value → H} {W : World} {base : Nat} {spare : Nat → Bool} {held : Bool} {t : TypeId} {k : Kd} {V : El k → Prop} {v : Value} {x : DataW H} {ps : List MemPlace} {ts : List TypeId} {ds : List (DataW H)} {j : Nat} (h : Rd P t k V)
  (hsz : (DataW.weightsEach P ts ds).all (· ≤ reachBytes) = true) (ht : ts[j]? = some t) (hd : ds[j]? = some x) (hx : DataW.Trod enc P W base spare held t v x ps) : ∃ a : El k, ER W (Old W) k a v.cells.toList ∧ V a := by
 obtain ⟨fuel, hf⟩ := hx
 exact h fuel fuel (Nat.le_refl _) enc W base spare held _ _ hf (fun m hm => by
  have := List.all_eq_true.1 hsz _ (DataW.weights_mem_each ht hd m hm)
  simpa using this)
structure AV where
 st : Bool
 k : Kd
 x : El k
def AV.arg (v : AV) : Arg := cond v.st (.v (.agg (cells [] v.k v.x))) (match cells [] v.k v.x with
 | [c] => .v (.one c)
 | _ => .v (.agg []))
def AV.R (W : World) (v : AV) (u : Value) : Prop := ER W (Old W) v.k v.x u.cells.toList ∧ if v.st then ∃ us, u = .agg us else v.k.size = 1 ∧ u.cells = #[u]
theorem vdf (m : Nat) : ∀ (cs cs' r r' : List C) (nid : Nat), inCs m nid cs = some (r, []) → inCs m nid cs' = some (r', []) → inCs m nid (cs ++ cs') = some (r ++ r', [])
 | [], cs', r, r', nid, h, h' => by simp [inCs] at h; subst h; exact h'
 | c :: cs, cs', r, r', nid, h, h' => by
  simp only [inCs] at h
  cases h1 : inC m nid c with
  | none => rw [h1] at h; simp at h
  | some y =>
   obtain ⟨c1, n1⟩ := y
   rw [h1] at h
   dsimp only at h
   cases h2 : inCs m (nid + n1.length) cs with
   | none => rw [h2] at h; simp at h
   | some z =>
    obtain ⟨r1, n2⟩ := z
    rw [h2] at h
    simp only [Option.some.injEq, Prod.mk.injEq, List.append_eq_nil_iff] at h
    obtain ⟨rfl, rfl, rfl⟩ := h
    have := vdf m cs cs' r1 r' nid (by simpa using h2) h'
    simp [inCs, h1, this]
theorem ua7 (m nid : Nat) : ∀ (k : Kd) (x : El k), inCs m nid (cells [] k x) = some (cells [m] k x, [])
 | .int _, _ => rfl
 | .bool, _ => rfl
 | .str, _ => rfl
 | .list _, _ => rfl
 | .pair a b, x => vdf m _ _ _ _ nid (ua7 m nid a x.1) (ua7 m nid b x.2)
theorem inCs_one {m nid : Nat} {c : C} {r : List C} (h : inCs m nid [c] = some (r, [])) : ∃ c', r = [c'] ∧ inC m nid c = some (c', []) := by
 simp only [inCs] at h
 cases h1 : inC m nid c with
 | none => rw [h1] at h; simp at h
 | some y =>
  obtain ⟨c1, n1⟩ := y
  rw [h1] at h
  simp at h
  obtain ⟨rfl, rfl⟩ := h
  exact ⟨c1, rfl, rfl⟩
def gOld (W : World) : Gh := ⟨fun _ => .none, fun b p => b ≠ 0 ∧ Old W p, fun _ => undef⟩
theorem ER.old {W : World} {k : Kd} {x : El k} {us : List Value} (i : Nat) (h : ER W (Old W) k x us) : ER W (SM (gOld W).L [i + 1]) k x us := ER.mono (fun p hp => ⟨i + 1, by simp, by simp, hp⟩) (fun _ _ => rfl) k x us h
theorem v3c {W : World} : ∀ (vs : List AV) (us : List Value), F2 (AV.R W) vs us → ∀ (i j : Nat), ∃ tvs xs, enter i 0 j (vs.map AV.arg) = some (tvs, [], xs, []) ∧ F2 (TVR (gOld W) W) tvs us
 | [], [], _, i, j => ⟨[], [], rfl, trivial⟩
 | [], _ :: _, h, _, _ => h.elim
 | _ :: _, [], h, _, _ => h.elim
 | v :: vs, u :: us, h, i, j => by
  obtain ⟨⟨st, k, x⟩, hx⟩ : ∃ w, v = w := ⟨v, rfl⟩
  subst hx
  obtain ⟨h1, h2⟩ := h.1
  have hin := ua7 (i + 1) 0 k x
  have hF := ER.cells k x _ (h1.old i)
  cases st with
  | true =>
   obtain ⟨as, rfl⟩ : ∃ us, u = .agg us := h2
   obtain ⟨tvs, xs, e1, e2⟩ := v3c vs us h.2 (i + 1) j
   refine ⟨.v (.agg (cells [i + 1] k x)) :: tvs, ⟨none, u78 0 []⟩ :: xs, ?_, ⟨⟨as, rfl, hF⟩, e2⟩⟩
   simp only [List.map_cons, enter, AV.arg, cond_true, u30, hin, Option.map_some, List.length_nil, Nat.add_zero, e1, List.nil_append]
  | false =>
   obtain ⟨hs, hu⟩ : k.size = 1 ∧ u.cells = #[u] := h2
   obtain ⟨c, hc⟩ : ∃ c, cells [] k x = [c] := by
    have := u65 [] k x
    rw [hs] at this
    match cells [] k x, this with
    | [c], _ => exact ⟨c, rfl⟩
   rw [hc] at hin
   obtain ⟨c', h3, h4⟩ := inCs_one hin
   obtain ⟨tvs, xs, e1, e2⟩ := v3c vs us h.2 (i + 1) j
   rw [h3, hu] at hF
   refine ⟨one1 c' :: tvs, ⟨none, u78 0 []⟩ :: xs, ?_, ⟨hF.1, e2⟩⟩
   simp only [List.map_cons, enter, AV.arg, hc, cond_false, u30, h4, Option.map_some, List.length_nil, Nat.add_zero, e1, List.nil_append]
theorem w92 {f : Nat} {fi : FI} (hF : FOk P f fi) {W : World} {vs : List AV} {us : List Value} (hR : F2 (AV.R W) vs us) {a : fi.A} (hsem : fi.sem (vs.map AV.arg) = some a) (hout : (fi.out a).vals = [.one (.bool true)]) :
  Calls P f us.toArray W fun e W' => e = .returned (.bool true) ∧ RowKit.Below W.heap.size W W' := by
 obtain ⟨tvs, xs, e1, e2⟩ := v3c vs us hR 0 0
 have hInv : Inv (fun _ => False) W (gOld W) (fun i => ([] : List Ob)[i]?) W := by
  refine ⟨fun i o hi => by simp at hi, fun i j o o' p _ hi => by simp at hi, fun i o p b hi => by simp at hi, fun i o p hi => by simp at hi, fun i _ => rfl, fun b p hp => ?_, fun p hp => absurd rfl hp.1, Keeps.refl _ _⟩
  obtain ⟨u, hu⟩ := Option.isSome_iff_exists.1 hp.2.1
  exact ⟨World.block_lt_of_cell? W p hu, hp.2.2⟩
 refine (hF.2 _ a hsem tvs [] xs [] e1 W (gOld W) (fun _ => False) us hInv (fun p hp => hp.1 rfl) (fun j gf hj => by simp at hj) e2).mono ?_
 rintro e W' ⟨rv, vs2, h2, ps, g2, rfl, hcan, hI2, hv2, _⟩
 refine ⟨?_, Keeps.below hI2.keep⟩
 unfold uee at hcan
 rw [hout] at hcan
 have : imVs id 0 [V1.one (.bool true)] = some ([.one (.bool true)], []) := rfl
 rw [this] at hcan
 dsimp only at hcan
 split at hcan
 ·simp at hcan
 ·simp only [Option.some.injEq, Prod.mk.injEq] at hcan
  obtain ⟨rfl, _⟩ := hcan
  have h3 : rv = .bool true := hv2
  rw [h3]
end Go.Proofs.YtaanadbpnmcbcaaGreatDoorA
