/-
  One operation of the model's keeps to what the small machine says of it: loads, stores, boxes. No condition.
-/
import Derived.Test.YtdhifkdijlghdaaGreatDoorARel
import Derived.Laws.Entries
import Derived.Laws.Append
import Derived.Laws.AppendOwn
import Derived.Laws.IdiomCopy
import Derived.Deep.MidRow
import Derived.Laws.StructEq
import Derived.Laws.Slices
import Derived.Laws.BytesArg
import Derived.Lib.ConvBytes
namespace Go.Proofs.YtdhifkdijlghdaaGreatDoorA
open Go
set_option linter.unusedVariables false
set_option linter.unusedSimpArgs false
def zOf : Value → Option Z
 | .int k 0 => some (.int k)
 | .bool false => some .bool
 | .string s => if s.size = 0 then some .str else none
 | .slice none 0 0 => some .nil
 | _ => none
def zsOf : List Value → Option (List Z)
 | [] => some []
 | v :: r => match zOf v, zsOf r with
  | some z, some zs => some (z :: zs)
  | _, _ => none
def fCheck (P : Program) : List Field → Bool
 | [] => true
 | f :: r => (match P.info? f.type with
  | some i => i.size != 0 && f.name != "_"
  | none => false) && fCheck P r
theorem fCheck_ok {P : Program} : ∀ {l : List Field}, fCheck P l = true → ∀ f ∈ l, (∃ i, P.info? f.type = some i ∧ i.size ≠ 0) ∧ f.name ≠ "_"
 | [], _, f, hf => by simp at hf
 | g :: l, h, f, hf => by
  simp only [fCheck, Bool.and_eq_true] at h
  rcases List.mem_cons.1 hf with rfl | hf
  ·have h1 := h.1
   split at h1
   ·rename_i i hi
    simp at h1
    exact ⟨⟨i, hi, h1.1⟩, h1.2⟩
   ·simp at h1
  ·exact fCheck_ok h.2 f hf
def dCheck (P : Program) : TD → TypeDesc → Bool
 | .int k, .int k' => k = k'
 | .bool, .bool => true
 | .str, .string => true
 | .slice e, .slice e' => e = e'
 | .struct fs, .struct fields => fields.toList.map (fun f => (f.offset, f.type)) = fs && fCheck P fields.toList
 | .array n e, .array n' e' => n = n' && e = e' && decide (1 < n)
 | .ptr e, .pointer e' => e = e'
 | .other, .struct _ => false
 | .other, .array _ _ => false
 | .other, _ => true
 | _, _ => false
def tiCheck (P : Program) (t : Nat) (ti : TI) : Bool :=
 match P.info? t, P.underlying t with
 | some i, some d => i.size = ti.size && i.bytes = ti.bytes && dCheck P ti.d d && (match ti.zc with
  | none => true
  | some zc => match i.zero with
   | some z => zsOf z.cells.toList = some zc
   | none => false) && (match ti.d with
  | .struct _ => !P.eqGuardType P.depth t && !P.stoodInHeld t
  | _ => true)
 | _, _ => false
def TtOk (P : Program) (tt : List (Nat × TI)) : Prop := tt.all (fun x => tiCheck P x.1 x.2) = true
theorem TtOk.ti {P : Program} : ∀ {tt : List (Nat × TI)}, TtOk P tt → ∀ {t : Nat} {ti : TI}, lkT tt t = some ti → tiCheck P t ti = true
 | [], _, t, ti, h => by simp [lkT] at h
 | (u, i) :: r, hk, t, ti, h => by
  simp only [TtOk, List.all_cons, Bool.and_eq_true] at hk
  simp only [lkT] at h
  split at h
  ·rename_i e; subst e; cases h; exact hk.1
  ·exact TtOk.ti (tt := r) hk.2 h
structure TiOk (P : Program) (t : Nat) (ti : TI) (i : TypeInfo) (d : TypeDesc) : Prop where
 info : P.info? t = some i
 und : P.underlying t = some d
 size : i.size = ti.size
 bytes : i.bytes = ti.bytes
 desc : dCheck P ti.d d = true
 zero : ∀ zc, ti.zc = some zc → ∃ z, i.zero = some z ∧ zsOf z.cells.toList = some zc
 eqs : ∀ fs, ti.d = .struct fs → P.eqGuardType P.depth t = false ∧ P.stoodInHeld t = false
theorem TiOk.of {P : Program} {t : Nat} {ti : TI} (h : tiCheck P t ti = true) : ∃ i d, TiOk P t ti i d := by
 unfold tiCheck at h
 split at h
 ·rename_i i d hi hd
  simp only [Bool.and_eq_true, decide_eq_true_eq] at h
  refine ⟨i, d, hi, hd, h.1.1.1.1, h.1.1.1.2, h.1.1.2, fun zc hz => ?_, fun fs hf => ?_⟩
  ·have := h.1.2
   rw [hz] at this
   simp only at this
   split at this
   ·rename_i z hz'
    exact ⟨z, hz', by simpa using this⟩
   ·simp at this
  ·have := h.2
   rw [hf] at this
   simpa using this
 ·simp at h
theorem Env.tiOk {P : Program} {E : Env} (h : TtOk P E.tt) {t : Nat} {ti : TI} (ht : E.ti t = some ti) : ∃ i d, TiOk P t ti i d := TiOk.of (TtOk.ti h ht)
theorem TiOk.int {P : Program} {t : Nat} {ti : TI} {i : TypeInfo} {d : TypeDesc} (h : TiOk P t ti i d) {k : IntKind} (hd : ti.d = .int k) : d = .int k := by
 have := h.desc; rw [hd] at this; cases d <;> simp [dCheck] at this; rw [this]
theorem TiOk.str {P : Program} {t : Nat} {ti : TI} {i : TypeInfo} {d : TypeDesc} (h : TiOk P t ti i d) (hd : ti.d = .str) : d = .string := by
 have := h.desc; rw [hd] at this; cases d <;> simp [dCheck] at this; rfl
theorem TiOk.slice {P : Program} {t : Nat} {ti : TI} {i : TypeInfo} {d : TypeDesc} (h : TiOk P t ti i d) {e : Nat} (hd : ti.d = .slice e) : d = .slice e := by
 have := h.desc; rw [hd] at this; cases d <;> simp [dCheck] at this; rw [this]
theorem TiOk.array {P : Program} {t : Nat} {ti : TI} {i : TypeInfo} {d : TypeDesc} (h : TiOk P t ti i d) {n e : Nat} (hd : ti.d = .array n e) : d = .array n e ∧ 1 < n := by
 have := h.desc; rw [hd] at this; cases d <;> simp [dCheck] at this; obtain ⟨⟨rfl, rfl⟩, h3⟩ := this; exact ⟨rfl, h3⟩
theorem TiOk.struct {P : Program} {t : Nat} {ti : TI} {i : TypeInfo} {d : TypeDesc} (h : TiOk P t ti i d) {fs : List (Nat × Nat)} (hd : ti.d = .struct fs) :
  ∃ fields, d = .struct fields ∧ fields.toList.map (fun f => (f.offset, f.type)) = fs ∧ ∀ f ∈ fields.toList, (∃ i, P.info? f.type = some i ∧ i.size ≠ 0) ∧ f.name ≠ "_" := by
 have := h.desc; rw [hd] at this; cases d <;> simp [dCheck] at this
 rename_i fields
 exact ⟨fields, rfl, by rw [← this.1], fCheck_ok this.2⟩
theorem M.bind_some {α β : Type} {x : M α} {f : α → M β} {H : Nat → Option Ob} {b : β} {l : List Nat} (h : M.bind x f H = some (b, l)) :
  ∃ a l1 l2, x H = some (a, l1) ∧ f a H = some (b, l2) ∧ l = l1 ++ l2 := by
 unfold M.bind at h
 split at h
 ·simp at h
 ·rename_i a l1 h1
  split at h
  ·simp at h
  ·rename_i b' l2 h2
   cases h
   exact ⟨a, l1, l2, h1, h2, rfl⟩
theorem M.get_some {id : Nat} {H : Nat → Option Ob} {o : Ob} {l : List Nat} (h : M.get id H = some (o, l)) : H id = some o := by
 unfold M.get at h
 split at h
 ·cases h; assumption
 ·simp at h
theorem M.opt_some {α : Type} {x : Option α} {H : Nat → Option Ob} {a : α} {l : List Nat} (h : M.opt x H = some (a, l)) : x = some a := by
 cases x with
 | none => simp [M.opt, M.fail] at h
 | some y => simp only [M.opt, M.ret, Option.some.injEq, Prod.mk.injEq] at h; rw [h.1]
theorem M.ret_some {α : Type} {a b : α} {H : Nat → Option Ob} {l : List Nat} (h : M.ret a H = some (b, l)) : a = b := by
 simp only [M.ret, Option.some.injEq, Prod.mk.injEq] at h; exact h.1
theorem M.fail_some {α : Type} {b : α} {H : Nat → Option Ob} {l : List Nat} (h : (M.fail : M α) H = some (b, l)) : False := by
 simp [M.fail] at h
theorem done_some {g : Bool} {v : TV} {u : List (Nat × Ob)} {n : List Ob} {H : Nat → Option Ob} {r : Res1} {l : List Nat} (h : done g v u n H = some (r, l)) : r = ⟨g, .done ⟨v, u, n⟩⟩ := (M.ret_some h).symm
theorem CR.plain {g : Gh} {w : World} : ∀ {c : C} {v : Value}, c ≠ .undef → CR g w c v → v.oneCell' = true ∧ v.cells = #[v]
 | .int k n, v, _, h => by cases h; exact ⟨rfl, rfl⟩
 | .bool b, v, _, h => by cases h; exact ⟨rfl, rfl⟩
 | .str s, v, _, h => by cases h; exact ⟨rfl, rfl⟩
 | .nil, v, _, ⟨A, h⟩ => by cases h; exact ⟨rfl, rfl⟩
 | .slv m k xs, v, _, h => by
  simp only [CR, ER] at h
  obtain ⟨A, n, c, us, e, _⟩ := h
  simp only [List.cons.injEq, and_true] at e
  subst e; exact ⟨rfl, rfl⟩
 | .own _ _ _ _, v, _, h => h.elim
 | .slo id, v, _, ⟨A, n, c, e, h⟩ => by cases h; exact ⟨rfl, rfl⟩
 | .bptr id off, v, _, ⟨a, e, h⟩ => by cases h; exact ⟨rfl, rfl⟩
 | .aptr id, v, _, ⟨a, n, c, e, h⟩ => by cases h; exact ⟨rfl, rfl⟩
 | .eptr id i sz off, v, _, ⟨a, n, c, e, hi, h⟩ => by cases h; exact ⟨rfl, rfl⟩
 | .rptr m k x off, v, _, ⟨a, us, h, _⟩ => by cases h; exact ⟨rfl, rfl⟩
 | .fn f, v, _, h => by cases h; exact ⟨rfl, rfl⟩
 | .clo f id, v, _, ⟨us, e, h⟩ => by cases h; exact ⟨rfl, rfl⟩
 | .fv j, v, _, ⟨_, f, us, h⟩ => by cases h; exact ⟨rfl, rfl⟩
 | .undef, v, h, _ => absurd rfl h
theorem C.plain_ne {c : C} (h : c.plain = true) : c ≠ .undef := by rintro rfl; simp [C.plain] at h
theorem F2.plain {g : Gh} {w : World} : ∀ {cs : List C} {us : List Value}, cs.all C.plain = true → F2 (CR g w) cs us → ∀ u ∈ us, u.oneCell' = true
 | [], [], _, _, u, hu => by simp at hu
 | c :: cs, v :: us, hp, h, u, hu => by
  simp only [List.all_cons, Bool.and_eq_true] at hp
  rcases List.mem_cons.1 hu with rfl | hu
  ·exact (CR.plain (C.plain_ne hp.1) h.1).1
  ·exact F2.plain hp.2 h.2 u hu
 | [], _ :: _, _, h, _, _ => h.elim
 | _ :: _, [], _, h, _, _ => h.elim
theorem cells_len (m : List Nat) : ∀ (k : Kd) (x : El k), (cells m k x).length = k.size
 | .int k, x => rfl
 | .bool, x => rfl
 | .str, x => rfl
 | .list k, x => rfl
 | .pair a b, x => by simp [cells, cells_len m a, cells_len m b, Kd.size]
 | .tree k, x => by simp [cells, cells_len m k, Kd.size]
theorem ER.cells {g : Gh} {w : World} {m : List Nat} : ∀ (k : Kd) (x : El k) (us : List Value), ER w (SM g.L m) k x us → F2 (CR g w) (cells m k x) us
 | .int k, x, us, h => by simp only [ER] at h; subst h; exact ⟨rfl, trivial⟩
 | .bool, x, us, h => by simp only [ER] at h; subst h; exact ⟨rfl, trivial⟩
 | .str, x, us, h => by simp only [ER] at h; subst h; exact ⟨rfl, trivial⟩
 | .list k, x, us, h => by
  have hl := ER.len _ _ _ h
  match us, hl with
  | [u], _ => exact ⟨h, trivial⟩
 | .pair a b, x, us, h => by
  simp only [ER] at h
  obtain ⟨u, r, rfl, h1, h2⟩ := h
  exact F2.append (ER.cells a _ _ h1) (ER.cells b _ _ h2)
 | .tree k, x, us, h => by
  obtain ⟨u, r, rfl, h1, h2⟩ := ER.tree.1 h
  have hl := ER.len _ _ _ h2
  match r, hl with
  | [v], _ => exact F2.append (ER.cells k _ _ h1) ⟨h2, trivial⟩
theorem ofCells_ok {g : Gh} {w : World} : ∀ (k : Kd) (cs : List C) (x : El k) (m : List Nat) (r : List C), ofCells k cs = some (x, m, r) → ∀ us, F2 (CR g w) cs us →
  ∃ u v, us = u ++ v ∧ (∀ m', (∀ b, b ∈ m → b ∈ m') → ER w (SM g.L m') k x u) ∧ F2 (CR g w) r v := by
 intro k
 induction k with
 | int k =>
  intro cs x m r h us hu
  match cs, us, hu with
  | .int k' n :: cs, v :: us, hu =>
   simp only [ofCells] at h
   split at h
   ·rename_i e; subst e; cases h
    exact ⟨[v], us, rfl, fun _ _ => by rw [hu.1]; rfl, hu.2⟩
   ·simp at h
  | [], _, _ => simp [ofCells] at h
  | .bool _ :: _, _, _ | .str _ :: _, _, _ | .nil :: _, _, _ | .slv .. :: _, _, _ | .own .. :: _, _, _ | .slo _ :: _, _, _ | .bptr .. :: _, _, _ | .aptr _ :: _, _, _ | .eptr .. :: _, _, _ | .rptr .. :: _, _, _ | .fn _ :: _, _, _ | .clo .. :: _, _, _ | .fv _ :: _, _, _ | .undef :: _, _, _ => simp [ofCells] at h
 | bool =>
  intro cs x m r h us hu
  match cs, us, hu with
  | .bool b :: cs, v :: us, hu =>
   simp only [ofCells] at h; cases h
   exact ⟨[v], us, rfl, fun _ _ => by rw [hu.1]; rfl, hu.2⟩
  | [], _, _ => simp [ofCells] at h
  | .int .. :: _, _, _ | .str _ :: _, _, _ | .nil :: _, _, _ | .slv .. :: _, _, _ | .own .. :: _, _, _ | .slo _ :: _, _, _ | .bptr .. :: _, _, _ | .aptr _ :: _, _, _ | .eptr .. :: _, _, _ | .rptr .. :: _, _, _ | .fn _ :: _, _, _ | .clo .. :: _, _, _ | .fv _ :: _, _, _ | .undef :: _, _, _ => simp [ofCells] at h
 | str =>
  intro cs x m r h us hu
  match cs, us, hu with
  | .str b :: cs, v :: us, hu =>
   simp only [ofCells] at h; cases h
   exact ⟨[v], us, rfl, fun _ _ => by rw [hu.1]; rfl, hu.2⟩
  | [], _, _ => simp [ofCells] at h
  | .int .. :: _, _, _ | .bool _ :: _, _, _ | .nil :: _, _, _ | .slv .. :: _, _, _ | .own .. :: _, _, _ | .slo _ :: _, _, _ | .bptr .. :: _, _, _ | .aptr _ :: _, _, _ | .eptr .. :: _, _, _ | .rptr .. :: _, _, _ | .fn _ :: _, _, _ | .clo .. :: _, _, _ | .fv _ :: _, _, _ | .undef :: _, _, _ => simp [ofCells] at h
 | list k ih =>
  intro cs x m r h us hu
  match cs, us, hu with
  | .slv m1 k' xs :: cs, v :: us, hu =>
   simp only [ofCells] at h
   split at h
   ·rename_i e; subst e; cases h
    exact ⟨[v], us, rfl, fun m' hm => ER.mono (fun p ⟨b, hb, hl⟩ => ⟨b, hm b hb, hl⟩) (fun p _ => rfl) _ _ _ hu.1, hu.2⟩
   ·simp at h
  | .nil :: cs, v :: us, hu =>
   simp only [ofCells] at h; cases h
   obtain ⟨A, hv⟩ := hu.1
   exact ⟨[v], us, rfl, fun _ _ => by rw [hv]; exact ⟨A, 0, 0, [], rfl, rfl, Nat.le_refl _, rfl, .inl rfl⟩, hu.2⟩
  | [], _, _ => simp [ofCells] at h
  | .int .. :: _, _, _ | .bool _ :: _, _, _ | .str _ :: _, _, _ | .own .. :: _, _, _ | .slo _ :: _, _, _ | .bptr .. :: _, _, _ | .aptr _ :: _, _, _ | .eptr .. :: _, _, _ | .rptr .. :: _, _, _ | .fn _ :: _, _, _ | .clo .. :: _, _, _ | .fv _ :: _, _, _ | .undef :: _, _, _ => simp [ofCells] at h
 | pair a b iha ihb =>
  intro cs x m r h us hu
  simp only [ofCells] at h
  split at h
  ·simp at h
  ·rename_i x1 m1 r1 h1
   split at h
   ·simp at h
   ·rename_i y m2 r2 h2
    cases h
    obtain ⟨u, v, rfl, hx, hr⟩ := iha cs x1 m1 r1 h1 us hu
    obtain ⟨u', v', rfl, hy, hr'⟩ := ihb r1 y m2 _ h2 v hr
    refine ⟨u ++ u', v', by simp, fun m' hm => ⟨u, u', rfl, hx m' fun b hb => hm b ?_, hy m' fun b hb => hm b ?_⟩, hr'⟩
    ·exact un_l hb
    ·exact un_r hb
 | tree k ih =>
  intro cs x m r h us hu
  simp only [ofCells] at h
  split at h
  ·simp at h
  ·rename_i x1 m1 r1 h1
   obtain ⟨u, v, rfl, hx, hr⟩ := ih cs x1 m1 r1 h1 us hu
   split at h
   ·rename_i m2 k' xs r2
    match v, hr with
    | v0 :: v, hr =>
     split at h
     ·rename_i e; subst e; cases h
      refine ⟨u ++ [v0], v, by simp, fun m' hm => ER.tree.2 ⟨u, [v0], rfl, hx m' fun b hb => hm b (un_l hb), ?_⟩, hr.2⟩
      exact ER.mono (fun p ⟨b, hb, hl⟩ => ⟨b, hm b (un_r hb), hl⟩) (fun p _ => rfl) (.list (.tree k)) _ _ hr.1
     ·simp at h
   ·rename_i r2
    match v, hr with
    | v0 :: v, hr =>
     cases h
     obtain ⟨A, hv⟩ := hr.1
     refine ⟨u ++ [v0], v, by simp, fun m' hm => ER.tree.2 ⟨u, [v0], rfl, hx m' hm, ?_⟩, hr.2⟩
     exact ⟨A, 0, 0, [], by rw [hv], rfl, Nat.le_refl _, rfl, .inl rfl⟩
   ·simp at h
where
 un_aux {x : Nat} : ∀ (l acc : List Nat), (x ∈ acc → x ∈ l.foldl (fun acc x => if acc.contains x then acc else acc ++ [x]) acc) ∧ (x ∈ l → x ∈ l.foldl (fun acc x => if acc.contains x then acc else acc ++ [x]) acc)
  | [], acc => ⟨id, by simp⟩
  | y :: l, acc => by
   have ih := un_aux (x := x) l (if acc.contains y then acc else acc ++ [y])
   refine ⟨fun h => ih.1 (by split <;> simp [h]), fun h => ?_⟩
   rcases List.mem_cons.1 h with rfl | h
   ·refine ih.1 ?_
    split
    ·rename_i hc; simpa using hc
    ·simp
   ·exact ih.2 h
 un_l {a b : List Nat} {x : Nat} (h : x ∈ a) : x ∈ un a b := (un_aux b a).1 h
 un_r {a b : List Nat} {x : Nat} (h : x ∈ b) : x ∈ un a b := (un_aux b a).2 h
theorem mem_un_l {a b : List Nat} {x : Nat} (h : x ∈ a) : x ∈ un a b := ofCells_ok.un_l h
theorem mem_un_r {a b : List Nat} {x : Nat} (h : x ∈ b) : x ∈ un a b := ofCells_ok.un_r h
theorem ER.nm {w : World} {L : Nat → Addr → Prop} {k : Kd} {m : List Nat} {x : El k} {us : List Value} (h : ER w (SM L m) k x us) : ER w (SM L (nm k m)) k x us := by
 unfold Go.Proofs.YtdhifkdijlghdaaGreatDoorA.nm
 split
 ·exact ER.flat k _ _ (by assumption) h
 ·exact h
theorem ofAll_ok {g : Gh} {w : World} {k : Kd} {cs : List C} {x : El k} {m : List Nat} (h : ofAll k cs = some (x, m)) {us : List Value} (hu : F2 (CR g w) cs us) {m' : List Nat} (hm : ∀ b, b ∈ m → b ∈ m') : ER w (SM g.L m') k x us := by
 unfold ofAll at h
 split at h
 ·rename_i x' m'' hc
  cases h
  obtain ⟨u, v, rfl, h1, h2⟩ := ofCells_ok (g := g) (w := w) k cs _ _ _ hc us hu
  match v, h2 with
  | [], _ => simpa using h1 m' hm
 ·simp at h
theorem zOf_ok {g : Gh} {w : World} {v : Value} {z : Z} (h : zOf v = some z) : CR g w z.c v := by
 unfold zOf at h
 split at h
 ·cases h; rfl
 ·cases h; rfl
 ·rename_i s
  split at h
  ·rename_i hs
   cases h
   show Value.string s = .string ByteArray.empty
   have : s = ByteArray.empty := by
    cases s with
    | mk d =>
     have hd : d.size = 0 := hs
     have : d = #[] := Array.eq_empty_of_size_eq_zero hd
     rw [this]; rfl
   rw [this]
  ·simp at h
 ·cases h; exact ⟨none, rfl⟩
 ·simp at h
theorem zsOf_ok {g : Gh} {w : World} : ∀ {vs : List Value} {zs : List Z}, zsOf vs = some zs → F2 (CR g w) (zs.map Z.c) vs
 | [], zs, h => by cases h; trivial
 | v :: r, zs, h => by
  simp only [zsOf] at h
  split at h
  ·rename_i z zs' hz hzs
   cases h
   exact ⟨zOf_ok hz, zsOf_ok hzs⟩
  ·simp at h
theorem Z.plain (zs : List Z) : (zs.map Z.c).all C.plain = true := by
 induction zs with
 | nil => rfl
 | cons z zs ih => cases z <;> simpa [Z.c, C.plain] using ih
theorem ER.zero {g : Gh} {w : World} {S : Addr → Prop} : ∀ (k : Kd) (us : List Value), F2 (CR g w) (k.zs.map Z.c) us → ER w S k k.zero us
 | .int k, us, h => by
  match us, h with
  | [u], h => simp only [ER, Kd.zero]; rw [h.1]
 | .bool, us, h => by
  match us, h with
  | [u], h => simp only [ER, Kd.zero]; rw [h.1]
 | .str, us, h => by
  match us, h with
  | [u], h => simp only [ER, Kd.zero]; rw [h.1]
 | .list k, us, h => by
  match us, h with
  | [u], h =>
   obtain ⟨A, hu⟩ := h.1
   exact ⟨A, 0, 0, [], by rw [hu], rfl, Nat.le_refl _, rfl, .inl rfl⟩
 | .pair a b, us, h => by
  simp only [Kd.zs, List.map_append] at h
  have hl := h.len
  have h1 := F2.take a.zs.length h
  have h2 := F2.drop a.zs.length h
  rw [List.take_append_of_le_length (by simp), List.take_of_length_le (by simp)] at h1
  rw [List.drop_append_of_le_length (by simp), List.drop_of_length_le (by simp), List.nil_append] at h2
  exact ⟨us.take a.zs.length, us.drop a.zs.length, (List.take_append_drop _ _).symm, ER.zero a _ h1, ER.zero b _ h2⟩
 | .tree k, us, h => by
  simp only [Kd.zs, List.map_append] at h
  have h1 := F2.take k.zs.length h
  have h2 := F2.drop k.zs.length h
  rw [List.take_append_of_le_length (by simp), List.take_of_length_le (by simp)] at h1
  rw [List.drop_append_of_le_length (by simp), List.drop_of_length_le (by simp), List.nil_append] at h2
  refine ER.tree.2 ⟨us.take k.zs.length, us.drop k.zs.length, (List.take_append_drop _ _).symm, ER.zero k _ h1, ?_⟩
  match us.drop k.zs.length, h2 with
  | [u], h2 =>
   obtain ⟨A, hu⟩ := h2.1
   exact ⟨A, 0, 0, [], by rw [hu], rfl, Nat.le_refl _, rfl, .inl rfl⟩
theorem zs_len : ∀ k : Kd, k.zs.length = k.size
 | .int _ | .bool | .str | .list _ => rfl
 | .pair a b => by simp [Kd.zs, zs_len a, zs_len b, Kd.size]
 | .tree k => by simp [Kd.zs, zs_len k, Kd.size]
end Go.Proofs.YtdhifkdijlghdaaGreatDoorA
