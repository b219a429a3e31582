/-
  A small machine over plain values that runs the translation's code: kinds, values, objects, states, and what one operation does. No condition.
-/
import Derived.Calls
import Derived.Orders
import Derived.Laws.World
import Derived.Below
import Derived.KernelRfl
namespace Go.Proofs.YtdhifkdijlghdaaGreatDoorA
open Go
inductive Kd where
 | int (k : IntKind) | bool | str | list (k : Kd) | pair (a b : Kd) | tree (k : Kd)
 deriving DecidableEq
inductive Tree (α : Type) where
 | mk (val : α) (kids : List (Tree α))
def Tree.val {α : Type} : Tree α → α
 | .mk x _ => x
def Tree.kids {α : Type} : Tree α → List (Tree α)
 | .mk _ l => l
@[reducible] def El : Kd → Type
 | .int _ => Int
 | .bool => Bool
 | .str => ByteArray
 | .list k => List (El k)
 | .pair a b => El a × El b
 | .tree k => Tree (El k)
def Kd.size : Kd → Nat
 | .pair a b => a.size + b.size
 | .tree k => k.size + 1
 | _ => 1
def Kd.flat : Kd → Bool
 | .list _ => false
 | .tree _ => false
 | .pair a b => a.flat && b.flat
 | _ => true
def Kd.zero : (k : Kd) → El k
 | .int _ => (0 : Int)
 | .bool => false
 | .str => ByteArray.empty
 | .list _ => []
 | .pair a b => (a.zero, b.zero)
 | .tree k => .mk k.zero []
inductive C where
 | int (k : IntKind) (n : Int) | bool (b : Bool) | str (s : ByteArray) | nil
 | slv (m : List Nat) (k : Kd) (xs : List (El k))
 | own (m : List Nat) (k : Kd) (xs : List (El k)) (x : Bool)
 | slo (id : Nat) | bptr (id off : Nat) | aptr (id : Nat) | eptr (id i sz off : Nat)
 | rptr (m : List Nat) (k : Kd) (x : El k) (off : Nat)
 | fn (f : Nat) | clo (f id : Nat) | fv (j : Nat) | undef
inductive V1 where
 | one (c : C) | agg (cs : List C) | vec (n : Nat) (k : Kd) (xs : List (El k)) | pbx (cs : List C)   -- pbx: a pointer to a new variable, among results alone
inductive SC where
 | int (k : IntKind) | bool | str | nil | slv (m : List Nat) (k : Kd) | own (m : List Nat) (k : Kd) (x : Bool) | slo (id : Nat) | bptr (id off : Nat) | aptr (id : Nat) | eptr (id sz off : Nat)
 | rptr (m : List Nat) (k : Kd) (off : Nat) | fn (f : Nat) | clo (f id : Nat) | fv (j : Nat) | undef
 deriving DecidableEq
@[reducible] def SC.T : SC → Type
 | .int _ => Int
 | .bool => Bool
 | .str => ByteArray
 | .slv _ k => List (El k)
 | .own _ k _ => List (El k)
 | .eptr .. => Nat
 | .rptr _ k _ => El k
 | _ => Unit
def SC.enc : (s : SC) → s.T → C
 | .int k, n => .int k n
 | .bool, b => .bool b
 | .str, s => .str s
 | .nil, _ => .nil
 | .slv m k, xs => .slv m k xs
 | .own m k x, xs => .own m k xs x
 | .slo id, _ => .slo id
 | .bptr id off, _ => .bptr id off
 | .aptr id, _ => .aptr id
 | .eptr id sz off, i => .eptr id i sz off
 | .rptr m k off, x => .rptr m k x off
 | .fn f, _ => .fn f
 | .clo f id, _ => .clo f id
 | .fv j, _ => .fv j
 | .undef, _ => .undef
@[reducible] def TL {α : Type} (T : α → Type) : List α → Type
 | [] => Unit
 | a :: as => T a × TL T as
def encL {α β : Type} {T : α → Type} (enc : (a : α) → T a → β) : (as : List α) → TL T as → List β
 | [], _ => []
 | a :: as, t => enc a t.1 :: encL enc as t.2
inductive SV where
 | one (c : SC) | agg (cs : List SC) | vec (n : Nat) (k : Kd) | pbx (cs : List SC)
 deriving DecidableEq
@[reducible] def SV.T : SV → Type
 | .one c => c.T
 | .agg cs => TL SC.T cs
 | .vec _ k => List (El k)
 | .pbx cs => TL SC.T cs
def SV.enc : (s : SV) → s.T → V1
 | .one c, t => .one (c.enc t)
 | .agg cs, t => .agg (encL SC.enc cs t)
 | .vec n k, xs => .vec n k xs
 | .pbx cs, t => .pbx (encL SC.enc cs t)
structure GV where
 outs : List SV
 sem : List V1 → Option (TL SV.T outs)
def GV.enc (g : GV) (r : TL SV.T g.outs) : List V1 := encL SV.enc g.outs r
inductive TV where
 | v (x : V1) | tup (xs : List V1)
inductive Ob where
 | box (cs : List C) | arr (k : Kd) (xs : List (El k)) (m : List Nat) (x : Bool) | vec (n : Nat) (k : Kd) (xs : List (El k)) | clo (caps : List C) | cbox (m : List Nat) (cs : List C) | dead
inductive Arg where
 | v (x : V1) | ptr (cs : List C) | ro (cs : List C) | fn (g : GV)
structure CRes where
 vals : List V1
 ios : List (List C)
inductive PS where
 | val (cks : List (Option (Kd × Bool))) | ptr (cks : List (Option (Kd × Bool))) | ro (cks : List (Option (Kd × Bool))) | fn (outs : List SV) | vec
structure FI where
 A : Type
 sem : List Arg → Option A
 out : A → CRes
 ps : List PS
inductive TD where
 | int (k : IntKind) | bool | str | slice (e : Nat) | struct (fs : List (Nat × Nat)) | array (n e : Nat) | ptr (e : Nat) | other
inductive Z where
 | int (k : IntKind) | bool | str | nil
 deriving DecidableEq
def Z.c : Z → C
 | .int k => .int k 0
 | .bool => .bool false
 | .str => .str ByteArray.empty
 | .nil => .nil
def Kd.zs : Kd → List Z
 | .int k => [.int k]
 | .bool => [.bool]
 | .str => [.str]
 | .list _ => [.nil]
 | .pair a b => a.zs ++ b.zs
 | .tree k => k.zs ++ [.nil]
structure TI where
 size : Nat
 bytes : Nat
 d : TD
 kd : Option Kd
 zc : Option (List Z)
structure Env where
 tt : List (Nat × TI)
 fi : Nat → Option FI
 nt : Nat
 ne : Nat   -- how many objects came in
 gv : List GV
 mv : List Nat
 fz : List Nat
structure Eff where
 val : TV
 upd : List (Nat × Ob)
 news : List Ob
inductive Act1 where
 | done (e : Eff)
 | call (f : Nat) (args : List Arg) (post : CRes → Option Eff)
 | callv (j : Nat) (args : List V1) (post : List V1 → Option Eff)
structure Res1 where
 g : Bool
 act : Act1
def M (α : Type) := (Nat → Option Ob) → Option (α × List Nat)
def M.ret {α : Type} (a : α) : M α := fun _ => some (a, [])
def M.fail {α : Type} : M α := fun _ => none
def M.bind {α β : Type} (x : M α) (f : α → M β) : M β := fun H =>
 match x H with
 | none => none
 | some (a, l) => match f a H with
  | none => none
  | some (b, l') => some (b, l ++ l')
def M.get (id : Nat) : M Ob := fun H => match H id with
 | some o => some (o, [id])
 | none => none
def M.opt {α : Type} : Option α → M α
 | some a => .ret a
 | none => .fail
def un (a b : List Nat) : List Nat := b.foldl (fun acc x => if acc.contains x then acc else acc ++ [x]) a
def nm (k : Kd) (m : List Nat) : List Nat := if k.flat then [] else m
def cells (m : List Nat) : (k : Kd) → El k → List C
 | .int k, n => [.int k n]
 | .bool, b => [.bool b]
 | .str, s => [.str s]
 | .list k, xs => [.slv m k xs]
 | .pair a b, x => cells m a x.1 ++ cells m b x.2
 | .tree k, t => cells m k t.val ++ [.slv m (.tree k) t.kids]
def ofCells : (k : Kd) → List C → Option (El k × List Nat × List C)
 | .int k, .int k' n :: r => if k = k' then some (n, [], r) else none
 | .bool, .bool b :: r => some (b, [], r)
 | .str, .str s :: r => some (s, [], r)
 | .list k, .slv m k' xs :: r => if h : k' = k then some (h ▸ xs, m, r) else none
 | .list _, .nil :: r => some ([], [], r)
 | .pair a b, cs => match ofCells a cs with
  | none => none
  | some (x, m, r) => match ofCells b r with
   | none => none
   | some (y, m', r') => some ((x, y), un m m', r')
 | .tree k, cs => match ofCells k cs with
  | none => none
  | some (x, m, r) => match r with
   | .slv m' k' xs :: r' => if h : k' = .tree k then some (.mk x (show El (.list (.tree k)) from h ▸ xs), un m m', r') else none
   | .nil :: r' => some (.mk x [], m, r')
   | _ => none
 | _, _ => none
def ofAll (k : Kd) (cs : List C) : Option (El k × List Nat) := match ofCells k cs with
 | some (x, m, []) => some (x, m)
 | _ => none
def castL (k k' : Kd) (xs : List (El k)) : Option (List (El k')) := if h : k = k' then some (h ▸ xs) else none
def castE (k k' : Kd) (x : El k) : Option (El k') := if h : k = k' then some (h ▸ x) else none
def ckU (b : Bool) : Option Unit := cond b (some ()) none
def SC.dec : (s : SC) → C → Option s.T
 | .int k, .int k' n => if k' = k then some n else none
 | .bool, .bool b => some b
 | .str, .str s => some s
 | .nil, .nil => some ()
 | .slv m k, .slv m' k' xs => if m' = m then castL k' k xs else none
 | .own m k x, .own m' k' xs x' => if m' = m ∧ x' = x then castL k' k xs else none
 | .slo id, .slo id' => if id' = id then some () else none
 | .bptr id off, .bptr id' off' => if id' = id ∧ off' = off then some () else none
 | .aptr id, .aptr id' => if id' = id then some () else none
 | .eptr id sz off, .eptr id' i sz' off' => if id' = id ∧ sz' = sz ∧ off' = off then some i else none
 | .rptr m k off, .rptr m' k' x off' => if m' = m ∧ off' = off then castE k' k x else none
 | .fn f, .fn f' => if f' = f then some () else none
 | .clo f id, .clo f' id' => if f' = f ∧ id' = id then some () else none
 | .fv j, .fv j' => if j' = j then some () else none
 | .undef, .undef => some ()
 | _, _ => none
def decL {α β : Type} {T : α → Type} (dec : (a : α) → β → Option (T a)) : (as : List α) → List β → Option (TL T as)
 | [], [] => some ()
 | a :: as, b :: bs => match dec a b with
  | none => none
  | some x => match decL dec as bs with
   | none => none
   | some y => some (x, y)
 | _, _ => none
def SV.dec : (s : SV) → V1 → Option s.T
 | .one s, .one c => s.dec c
 | .agg ss, .agg cs => decL SC.dec ss cs
 | .vec n k, .vec n' k' xs => if n' = n then castL k' k xs else none
 | .pbx ss, .pbx cs => decL SC.dec ss cs
 | _, _ => none
def rdE (k : Kd) (xs : List (El k)) (i : Nat) : El k := xs.getD i k.zero
def V1.cells : V1 → Option (List C)
 | .one c => some [c]
 | .agg cs => some cs
 | _ => none
def lkT (tt : List (Nat × TI)) (t : Nat) : Option TI := match tt with
 | [] => none
 | (u, i) :: r => if u = t then some i else lkT r t
def Env.ti (E : Env) (t : Nat) : Option TI := lkT E.tt t
def lk (l : List (Nat × TV)) (t : Nat) : Option TV := match l with
 | [] => none
 | (u, i) :: r => if u = t then some i else lk r t
def putT (l : List (Nat × TV)) (t : Nat) (x : TV) : List (Nat × TV) := match l with
 | [] => [(t, x)]
 | (u, i) :: r => if u = t then (t, x) :: r else (u, i) :: putT r t x
def isAggT (ti : TI) : Bool := match ti.d with | .struct _ | .array _ _ => true | _ => false
def mk (ti : TI) (cs : List C) : Option V1 := if cs.length ≠ ti.size then none else match ti.d, cs with
 | .struct _, cs => some (.agg cs)
 | .array _ _, _ => none
 | _, [c] => some (.one c)
 | _, _ => none
def splice (cs : List C) (off : Nat) (new : List C) : List C := cs.take off ++ new ++ cs.drop (off + new.length)
def cOf : Value → Option C
 | .int k n => some (.int k n)
 | .bool b => some (.bool b)
 | .string s => some (.str s)
 | .slice none 0 0 => some .nil
 | .pointer none => some .undef
 | _ => none
def cOfs : List Value → Option (List C)
 | [] => some []
 | v :: r => match cOf v, cOfs r with
  | some c, some cs => some (c :: cs)
  | _, _ => none
def vOf : Value → Option V1
 | .agg cs => (cOfs cs.toList).map .agg
 | v => (cOf v).map .one
def ev (tmps : List (Nat × TV)) : Operand → Option TV
 | .tmp t => lk tmps t
 | .const v => (vOf v).map .v
 | .func f => some (.v (.one (.fn f)))
 | .global _ => none
def bits (k : IntKind) (f : BitVec k.bits → BitVec k.bits → BitVec k.bits) (x y : Int) : Int := k.wrap (f (BitVec.ofInt k.bits x) (BitVec.ofInt k.bits y)).toNat
def iAnd (k : IntKind) (x y : Int) : Int := bits k (· &&& ·) x y
def iOr (k : IntKind) (x y : Int) : Int := bits k (· ||| ·) x y
def iXor (k : IntKind) (x y : Int) : Int := bits k (· ^^^ ·) x y
def iAndNot (k : IntKind) (x y : Int) : Int := bits k (fun a b => a &&& ~~~b) x y
def iShl (k : IntKind) (x y : Int) : Int := k.wrap (x * 2 ^ (min y.toNat k.bits))
def iShr (k : IntKind) (x y : Int) : Int := x.fdiv (2 ^ (min y.toNat k.bits))
def sEq (a b : ByteArray) : Bool := a.toList == b.toList
def sLt (a b : ByteArray) : Bool := Op.bytesLess a.toList b.toList
def byteAt (s : ByteArray) (i : Int) : Int := if h : i.toNat < s.size then ((s[i.toNat]'h).toNat : Int) else 0
def bytesL (s : ByteArray) : List Int := s.data.toList.map fun b => (b.toNat : Int)
def strL (xs : List Int) : ByteArray := ⟨(xs.map fun n => UInt8.ofNat n.toNat).toArray⟩
def cut (s : ByteArray) (l h : Int) : ByteArray := s.extract l.toNat h.toNat
def sub {α : Type} (xs : List α) (l h : Int) : List α := (xs.take h.toNat).drop l.toNat
def binI (op : BinOp) (k : IntKind) (x y : Int) : Option (Bool × C) :=
 match op with
 | .add => some (true, .int k (k.wrap (x + y)))
 | .sub => some (true, .int k (k.wrap (x - y)))
 | .mul => some (true, .int k (k.wrap (x * y)))
 | .quo => some (y != 0, .int k (k.wrap (x.tdiv y)))
 | .rem => some (y != 0, .int k (x.tmod y))
 | .and => some (true, .int k (iAnd k x y))
 | .or => some (true, .int k (iOr k x y))
 | .xor => some (true, .int k (iXor k x y))
 | .andNot => some (true, .int k (iAndNot k x y))
 | .eql => some (true, .bool (x == y))
 | .neq => some (true, .bool (x != y))
 | .lss => some (true, .bool (x < y))
 | .leq => some (true, .bool (x ≤ y))
 | .gtr => some (true, .bool (x > y))
 | .geq => some (true, .bool (x ≥ y))
 | _ => none
def binS (op : BinOp) (x y : ByteArray) : Option (Bool × C) :=
 match op with
 | .add => some (decide (x.size + y.size ≤ 9223372036854775807), .str (x ++ y))
 | .eql => some (true, .bool (sEq x y))
 | .neq => some (true, .bool (!sEq x y))
 | .lss => some (true, .bool (sLt x y))
 | .leq => some (true, .bool (sLt x y || sEq x y))
 | .gtr => some (true, .bool (!(sLt x y || sEq x y)))
 | .geq => some (true, .bool (!sLt x y))
 | _ => none
def eqC : C → C → Option Bool
 | .int k a, .int k' b => if k = k' then some (a == b) else none
 | .bool a, .bool b => some (a == b)
 | .str a, .str b => some (sEq a b)
 | _, _ => none
def eqCs : List C → List C → Option Bool
 | [], [] => some true
 | [a], [b] => eqC a b
 | a :: as, b :: bs => match eqC a b, eqCs as bs with
  | some p, some q => some (p && q)
  | _, _ => none
 | _, _ => none
def binC (bt : Bool) (op : BinOp) : C → C → Option (Bool × C)
 | .int k a, .int k' b =>
  match op with
  | .shl => some (decide (0 ≤ b), .int k (iShl k a b))
  | .shr => some (decide (0 ≤ b), .int k (iShr k a b))
  | _ => if k = k' then binI op k a b else none
 | .str a, .str b => binS op a b
 | .bool a, .bool b => if bt = true then (match op with
  | .eql => some (true, .bool (a == b))
  | .neq => some (true, .bool (!(a == b)))
  | _ => none) else none
 | _, _ => none
def unC (op : UnOp) : C → Option C
 | .int k n => match op with
  | .neg => some (.int k (k.wrap (0 - n)))
  | .xor => some (.int k (iXor k (if k.signed then -1 else k.max) n))
  | _ => none
 | .bool b => match op with
  | .not => some (.bool (!b))
  | _ => none
 | _ => none
theorem castL_some {k k' : Kd} {xs : List (El k)} {ys : List (El k')} (h : castL k k' xs = some ys) : ∃ e : k = k', ys = e ▸ xs := by
 unfold castL at h
 split at h
 ·rename_i e; cases h; exact ⟨e, rfl⟩
 ·simp at h
theorem castE_some {k k' : Kd} {x : El k} {y : El k'} (h : castE k k' x = some y) : ∃ e : k = k', y = e ▸ x := by
 unfold castE at h
 split at h
 ·rename_i e; cases h; exact ⟨e, rfl⟩
 ·simp at h
theorem SC.dec_some {s : SC} {c : C} {t : s.T} (h : s.dec c = some t) : c = s.enc t := by
 cases s <;> cases c <;> simp only [SC.dec, reduceCtorEq] at h <;> (try split at h) <;> (try simp only [reduceCtorEq] at h)
 case slv.slv => rename_i e; subst e; obtain ⟨e, rfl⟩ := castL_some h; subst e; rfl
 case own.own => rename_i e; obtain ⟨rfl, rfl⟩ := e; obtain ⟨e, rfl⟩ := castL_some h; subst e; rfl
 case rptr.rptr => rename_i e; obtain ⟨rfl, rfl⟩ := e; obtain ⟨e, rfl⟩ := castE_some h; subst e; rfl
 all_goals first
  | (cases h; rfl)
  | (rename_i e; subst e; cases h; rfl)
  | (rename_i e; obtain ⟨rfl, rfl⟩ := e; cases h; rfl)
  | (rename_i e; obtain ⟨rfl, rfl, rfl⟩ := e; cases h; rfl)
theorem decL_some {α β : Type} {T : α → Type} {enc : (a : α) → T a → β} {dec : (a : α) → β → Option (T a)} (hd : ∀ a b t, dec a b = some t → b = enc a t) : ∀ {as : List α} {bs : List β} {t : TL T as}, decL dec as bs = some t → bs = encL enc as t
 | [], [], t, h => rfl
 | a :: as, b :: bs, t, h => by
  simp only [decL] at h
  cases h1 : dec a b with
  | none => rw [h1] at h; simp at h
  | some x =>
   cases h2 : decL dec as bs with
   | none => rw [h1, h2] at h; simp at h
   | some y =>
    rw [h1, h2] at h
    cases h
    simp only [encL]
    rw [hd a b x h1, decL_some hd h2]
 | [], b :: bs, t, h => by simp [decL] at h
 | a :: as, [], t, h => by simp [decL] at h
theorem SCL_some {ss : List SC} {cs} {t : TL SC.T ss} (h : decL SC.dec ss cs = some t) : cs = encL SC.enc ss t := decL_some (enc := SC.enc) (dec := SC.dec) (fun _ _ _ => SC.dec_some) h
theorem SV.dec_some {s : SV} {c : V1} {t : s.T} (h : s.dec c = some t) : c = s.enc t := by
 cases s <;> cases c <;> simp only [SV.dec, reduceCtorEq] at h
 ·simp only [SV.enc]; rw [SC.dec_some h]
 ·simp only [SV.enc]; rw [SCL_some h]
 ·split at h
  ·rename_i e; subst e; obtain ⟨e, rfl⟩ := castL_some h; subst e; rfl
  ·simp at h
 ·simp only [SV.enc]; rw [SCL_some h]
theorem SVL_some {ss : List SV} {cs} {t : TL SV.T ss} (h : decL SV.dec ss cs = some t) : cs = encL SV.enc ss t := decL_some (enc := SV.enc) (dec := SV.dec) (fun _ _ _ => SV.dec_some) h
end Go.Proofs.YtdhifkdijlghdaaGreatDoorA
