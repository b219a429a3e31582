/-
  What one operation, a region and a function's code do on the small machine. No condition.
-/
import Derived.Test.YtdhifkdijlghdaaGreatDoorADef
namespace Go.Proofs.YtdhifkdijlghdaaGreatDoorA
open Go
set_option linter.unusedVariables false
structure SL where
 m : List Nat
 k : Kd
 xs : List (El k)
def getSl (ck : Option Kd) : C → M SL
 | .slv m k xs => .ret ⟨m, k, xs⟩
 | .slo id => M.bind (M.get id) fun o => match o with
  | .arr k xs m _ => .ret ⟨m, k, xs⟩
  | _ => .fail
 | .nil => match ck with
  | some k => .ret ⟨[], k, []⟩
  | none => .fail
 | _ => .fail
def done (g : Bool) (v : TV) (upd : List (Nat × Ob) := []) (news : List Ob := []) : M Res1 := .ret ⟨g, .done ⟨v, upd, news⟩⟩
def one1 (c : C) : TV := .v (.one c)
def pLoad (ti : TI) : C → M V1
 | .bptr id off => M.bind (M.get id) fun o => match o with
  | .box cs | .cbox _ cs => M.opt (mk ti ((cs.drop off).take ti.size))
  | _ => .fail
 | .aptr id => M.bind (M.get id) fun o => match o, ti.d with
  | .vec n k xs, .array n' _ => if n = n' ∧ n * k.size = ti.size then .ret (.vec n k xs) else .fail
  | _, _ => .fail
 | .eptr id i sz off => M.bind (M.get id) fun o => match o with
  | .arr k xs m _ => if sz = k.size then M.opt (mk ti (((cells m k (rdE k xs i)).drop off).take ti.size)) else .fail
  | .vec _ k xs => if sz = k.size then M.opt (mk ti (((cells [] k (rdE k xs i)).drop off).take ti.size)) else .fail
  | _ => .fail
 | .rptr m k x off => M.opt (mk ti (((cells m k x).drop off).take ti.size))
 | _ => .fail
def C.plain : C → Bool
 | .own .. | .undef => false
 | _ => true
def C.elem : C → Bool
 | .int .. | .bool _ | .str _ | .slv .. | .nil => true
 | _ => false
def setE (k : Kd) (xs : List (El k)) (i : Nat) (e : El k) : List (El k) := xs.set i e
def pStore (ti : TI) (v : V1) : C → M Res1
 | .bptr id off => M.bind (M.get id) fun o => match o, v.cells with
  | .box cs, some ns => if ns.length = ti.size ∧ off + ns.length ≤ cs.length ∧ ns.all C.plain = true then done true (.tup []) [(id, .box (splice cs off ns))] else .fail
  | _, _ => .fail
 | .aptr id => M.bind (M.get id) fun o => match o, v with
  | .vec n k _, .vec n' k' ys => if n = n' ∧ n * k.size = ti.size then (match castL k' k ys with
   | some ys => done true (.tup []) [(id, .vec n k ys)]
   | none => .fail) else .fail
  | _, _ => .fail
 | .eptr id i sz off => M.bind (M.get id) fun o => match o, v.cells with
  | .arr k xs m true, some ns => if sz = k.size ∧ ns.length = ti.size ∧ off + ns.length ≤ k.size then (match ofAll k (splice (cells m k (rdE k xs i)) off ns) with
   | some (e, m') => done true (.tup []) [(id, .arr k (setE k xs i e) (nm k (un m m')) true)]
   | none => .fail) else .fail
  | .vec n k xs, some ns => if k.flat = true ∧ sz = k.size ∧ ns.length = ti.size ∧ off + ns.length ≤ k.size then (match ofAll k (splice (cells [] k (rdE k xs i)) off ns) with
   | some (e, _) => done true (.tup []) [(id, .vec n k (setE k xs i e))]
   | none => .fail) else .fail
  | _, _ => .fail
 | _ => .fail
def pBox (ti : TI) (nid : Nat) (v : V1) : M Res1 := match v with
 | .vec n k xs => if k.flat = true then done true (one1 (.aptr nid)) [] [.vec n k xs] else .fail
 | v => match v.cells with
  | some cs => if cs.all C.plain = true then done true (one1 (.bptr nid 0)) [] [.box cs] else .fail
  | none => .fail
def zeroC (E : Env) (t : Nat) : Option (List C) := match E.ti t with
 | some ti => ti.zc.map fun l => l.map Z.c
 | none => none
def repZ (z : List Z) : Nat → List Z
 | 0 => []
 | n + 1 => z ++ repZ z n
def pAlloc (E : Env) (t nid : Nat) : M Res1 := match E.ti t with
 | some ⟨sz, _, .array n e, _, zc⟩ => match E.ti e with
  | some ⟨_, _, _, some k, _⟩ => if k.flat = true ∧ zc = some (repZ k.zs n) then done true (one1 (.aptr nid)) [] [.vec n k (List.replicate n k.zero)] else .fail
  | _ => .fail
 | some _ => match zeroC E t with
  | some cs => done true (one1 (.bptr nid 0)) [] [.box cs]
  | none => .fail
 | none => .fail
def fillC (place : Nat → Option (Nat × Nat)) (cs : List C) : List (Nat × V1) → Option (List C)
 | [] => some cs
 | (i, v) :: r => match place i, v.cells with
  | some (off, sz), some ns => if ns.length = sz ∧ off + ns.length ≤ cs.length ∧ ns.all C.plain = true then fillC place (splice cs off ns) r else none
  | _, _ => none
def ofRows (k : Kd) : Nat → List C → Option (List (El k) × List Nat)
 | 0, [] => some ([], [])
 | 0, _ => none
 | n + 1, cs => match ofCells k cs with
  | none => none
  | some (x, m, r) => match ofRows k n r with
   | none => none
   | some (xs, m') => some (x :: xs, un m m')
def repC (z : List C) : Nat → List C
 | 0 => []
 | n + 1 => z ++ repC z n
def pBuild (E : Env) (t : Nat) (parts : List (Nat × V1)) : M Res1 := match E.ti t with
 | some ⟨_, _, .struct fs, _, _⟩ => match zeroC E t with
  | some z => match fillC (fun i => match fs[i]? with
    | some (o, ft) => match E.ti ft with
     | some fi => some (o, fi.size)
     | none => none
    | none => none) z parts with
   | some cs => done true (.v (.agg cs))
   | none => .fail
  | none => .fail
 | some ⟨_, _, .array n e, _, _⟩ => match E.ti e, zeroC E t with
  | some ⟨sz, _, _, some k, _⟩, some z => if k.flat = true ∧ sz = k.size then (match fillC (fun i => if i < n then some (i * sz, sz) else none) z parts with
   | some cs => match ofRows k n cs with
    | some (xs, _) => done true (.v (.vec n k xs))
    | none => .fail
   | none => .fail) else .fail
  | _, _ => .fail
 | _ => .fail
def pBuildSlice (E : Env) (t n nid : Nat) (parts : List (Nat × V1)) : M Res1 := match E.ti t with
 | some ⟨_, _, .slice e, _, _⟩ => match E.ti e with
  | some ⟨sz, _, _, some k, zc⟩ => if sz = k.size ∧ zc = some k.zs ∧ n * sz ≤ 1000000 then (match fillC (fun i => if i < n then some (i * sz, sz) else none) (repC (k.zs.map Z.c) n) parts with
   | some cs => match ofRows k n cs with
    | some (xs, m) => done true (one1 (.slo nid)) [] [.arr k xs (nm k m) true]
    | none => .fail
   | none => .fail) else .fail
  | _ => .fail
 | _ => .fail
def pMake (E : Env) (t nid : Nat) (l c : C) : M Res1 := match E.ti t, l, c with
 | some ⟨_, _, .slice e, _, _⟩, .int .i64 l, .int .i64 c => match E.ti e with
  | some ⟨sz, by', _, some k, zc⟩ => if sz = k.size ∧ zc = some k.zs ∧ 0 < by' then done (decide (0 ≤ l) && decide (l ≤ c) && decide (c * by' ≤ 140737488355328)) (one1 (.slo nid)) [] [.arr k (List.replicate l.toNat k.zero) [] true] else .fail
  | _ => .fail
 | _, _, _ => .fail
def bnd (d : Int) : Option C → Option Int
 | none => some d
 | some (.int _ n) => some n
 | _ => none
def bndS : Option C → Option Int
 | some (.int _ n) => some n
 | _ => none
def pSlice (E : Env) (mv : Bool) (t nid : Nat) (x : C) (lo hi mx : Option C) : M Res1 := match E.ti t, x, mx with
 | some ⟨_, _, .str, _, _⟩, .str s, none => match bnd 0 lo, bnd s.size hi with
  | some l, some h => done (decide (0 ≤ l) && decide (l ≤ h) && decide (h ≤ s.size)) (one1 (.str (cut s l h)))
  | _, _ => .fail
 | some ⟨_, _, .slice e, _, _⟩, x, none => match E.ti e with
  | some ei => M.bind (getSl ei.kd x) fun sl => match bnd 0 lo, bnd sl.xs.length hi with
   | some l, some h =>
    let g := decide (0 ≤ l) && decide (l ≤ h) && decide (h ≤ sl.xs.length)
    if ei.size = sl.k.size then (match x with
     | .slo id => M.bind (M.get id) fun o => match o with
      | .arr k xs m b => if mv then (if b then done g (one1 (.slo nid)) [(id, .dead)] [.arr k (sub xs l h) m true] else .fail) else done g (one1 (.slv (un [0] m) k (sub xs l h))) [(id, .arr k xs m false)]
      | _ => .fail
     | _ => done g (one1 (.slv sl.m sl.k (sub sl.xs l h)))) else .fail
   | _, _ => .fail
  | none => .fail
 | some ⟨_, _, .slice e, _, _⟩, x, some mc => match E.ti e with   -- s[:0:0]
  | some ei => M.bind (getSl ei.kd x) fun _ => match bnd 0 lo, bndS hi, bndS (some mc) with
   | some l, some h, some m => if l = 0 ∧ h = 0 ∧ m = 0 then done true (one1 .nil) else .fail
   | _, _, _ => .fail
  | none => .fail
 | _, _, _ => .fail
def pIndexAddr (E : Env) (t : Nat) (x ix : C) : M Res1 := match E.ti t, ix with
 | some ⟨_, _, .slice e, _, _⟩, .int _ i => match E.ti e with
  | some ei => M.bind (getSl ei.kd x) fun sl => if ei.size = sl.k.size then
    (let g := decide (0 ≤ i) && decide (i < sl.xs.length)
    match x with
    | .slo id => done g (one1 (.eptr id i.toNat sl.k.size 0))
    | _ => done g (one1 (.rptr sl.m sl.k (rdE sl.k sl.xs i.toNat) 0))) else .fail
  | none => .fail
 | some ⟨_, _, .array n e, _, _⟩, .int _ i => match E.ti e, x with
  | some ei, .aptr id => M.bind (M.get id) fun o => match o with
   | .vec n' k _ => if n = n' ∧ ei.size = k.size then done (decide (0 ≤ i) && decide (i < n)) (one1 (.eptr id i.toNat k.size 0)) else .fail
   | _ => .fail
  | _, _ => .fail
 | _, _ => .fail
def pFieldAddr (E : Env) (t : Nat) (f : Nat) (x : C) : M Res1 := match E.ti t with
 | some ⟨_, _, .struct fs, _, _⟩ => match fs[f]? with
  | some (o, _) => match x with
   | .bptr id off => done true (one1 (.bptr id (off + o)))
   | .eptr id i sz off => done true (one1 (.eptr id i sz (off + o)))
   | .rptr m k x off => done true (one1 (.rptr m k x (off + o)))
   | _ => .fail
  | none => .fail
 | _ => .fail
def pField (E : Env) (t : Nat) (f : Nat) (x : V1) : M Res1 := match E.ti t, x with
 | some ⟨_, _, .struct fs, _, _⟩, .agg cs => match fs[f]? with
  | some (o, ft) => match E.ti ft with
   | some fi => match mk fi ((cs.drop o).take fi.size) with
    | some v => done true (.v v)
    | none => .fail
   | none => .fail
  | none => .fail
 | _, _ => .fail
def pIndex (E : Env) (t : Nat) (x : V1) (ix : C) : M Res1 := match E.ti t, x, ix with
 | some ⟨_, _, .str, _, _⟩, .one (.str s), .int _ i => done (decide (0 ≤ i) && decide (i < s.size)) (one1 (.int .u8 (byteAt s i)))
 | some ⟨_, _, .array n e, _, _⟩, .vec n' k xs, .int _ i => match E.ti e with
  | some ei => if n = n' ∧ ei.size = k.size then (match mk ei (cells [] k (rdE k xs i.toNat)) with
   | some v => done (decide (0 ≤ i) && decide (i < n)) (.v v)
   | none => .fail) else .fail
  | none => .fail
 | _, _, _ => .fail
def pConvert (E : Env) (s d nid : Nat) (x : C) : M Res1 := match E.ti s, E.ti d with
 | some si, some di => match si.d, di.d, x with
  | .int _, .int k, .int _ n => done true (one1 (.int k (k.wrap n)))
  | .str, .str, .str b => done true (one1 (.str b))
  | .str, .slice e, .str b => match E.ti e with
   | some ei => match ei.d with
    | .int .u8 => done true (one1 (.slo nid)) [] [.arr (.int .u8) (bytesL b) [] true]
    | _ => .fail
   | none => .fail
  | .slice e, .str, x => match E.ti e with
   | some ei => match ei.d with
    | .int .u8 => M.bind (getSl (some (.int .u8)) x) fun sl => match castL sl.k (.int .u8) sl.xs with
     | some xs => done true (one1 (.str (strL xs)))
     | none => .fail
    | _ => .fail
   | none => .fail
  | _, _, _ => .fail
 | _, _ => .fail
def pLen (E : Env) (t : Nat) (x : V1) : M Res1 := match E.ti t, x with
 | some ⟨_, _, .str, _, _⟩, .one (.str s) => done true (one1 (.int .i64 s.size))
 | some ⟨_, _, .slice e, _, _⟩, .one c => match E.ti e with
  | some ei => M.bind (getSl ei.kd c) fun sl => done true (one1 (.int .i64 sl.xs.length))
  | none => .fail
 | some ⟨_, _, .array n _, _, _⟩, _ => done true (one1 (.int .i64 n))
 | _, _ => .fail
def isSeq (E : Env) (t : Nat) : Bool := match E.ti t with
 | some ti => match ti.d with
  | .slice _ | .str => true
  | _ => false
 | none => false
def pAppend (E : Env) (t t2 nid : Nat) (s x : C) : M Res1 := if isSeq E t2 = false then .fail else match E.ti t with
 | some ⟨_, _, .slice e, _, _⟩ => match E.ti e with
  | some ⟨sz, by', ed, some k, zc⟩ => if sz = k.size ∧ zc = some k.zs ∧ 0 < by' then
   M.bind (match x with
    | .str b => (match ed, k with
     | .int .u8, .int .u8 => M.ret (⟨[], .int .u8, bytesL b⟩ : SL)
     | _, _ => M.fail)
    | x => getSl (some k) x) fun sl => match castL sl.k k sl.xs with
   | none => .fail
   | some ys => match s with
    | .nil => done (decide (ys.length * by' ≤ 140737488355328)) (one1 (.slo nid)) [] [.arr k ys (nm k sl.m) true]
    | .slo id => M.bind (M.get id) fun o => match o with
     | .arr k' xs m x => (match castL k' k xs with
      | some xs => done (decide ((xs.length + ys.length) * by' ≤ 140737488355328)) (one1 (.slo nid)) [(id, .dead)] [.arr k (xs ++ ys) (nm k (un m sl.m)) x]
      | none => .fail)
     | _ => .fail
    | _ => .fail
   else .fail
  | _ => .fail
 | _ => .fail
def mx2 (x y : Int) : Int := if y > x then y else x
def mn2 (x y : Int) : Int := if y < x then y else x
def foldI (f : Int → Int → Int) (k : IntKind) (n : Int) : List TV → Option Int
 | [] => some n
 | .v (.one (.int k' y)) :: r => if k = k' then foldI f k (f n y) r else none
 | _ => none
structure AI where
 m : List Nat
 bor : List (Nat × Ob)
 bx : Option (Nat × List C)
 own : List (Nat × Bool)   -- handed over whole; true: by value (its place stays)
 rd : List Nat             -- pointers' objects that are only read
def AI.e : AI := ⟨[], [], .none, [], []⟩
def AI.app (a b : AI) : AI := ⟨un a.m b.m, a.bor ++ b.bor, match a.bx with | .none => b.bx | x => x, a.own ++ b.own, a.rd ++ b.rd⟩
def exC (val : Bool) (ck : Option (Kd × Bool)) : C → M (C × AI)
 | .int k n => .ret (.int k n, .e)
 | .bool b => .ret (.bool b, .e)
 | .str s => .ret (.str s, .e)
 | .slv m k xs => match ck with
  | some (_, true) => .fail
  | _ => .ret (.slv [] k xs, ⟨m, [], .none, [], []⟩)
 | .nil => match ck with
  | some (k, true) => if val then .fail else .ret (.own [] k [] true, .e)
  | some (k, false) => .ret (.slv [] k [], .e)
  | none => .fail
 | .slo id => M.bind (M.get id) fun o => match o, ck with
  | .arr k xs m b, some (_, true) => if b then .ret (.own [] k xs true, ⟨m, [], .none, [(id, val)], []⟩) else .fail
  | .arr k xs m _, _ => .ret (.slv [] k xs, ⟨m, [(id, .arr k xs m false)], .none, [], []⟩)
  | _, _ => .fail
 | _ => .fail
def exCs (val : Bool) : List (Option (Kd × Bool)) → List C → M (List C × AI)
 | _, [] => .ret ([], .e)
 | cks, c :: cs => M.bind (exC val (cks.headD none) c) fun a => M.bind (exCs val cks.tail cs) fun b => .ret (a.1 :: b.1, a.2.app b.2)
def noSl : List V1 → Bool
 | [] => true
 | .one (.int ..) :: r | .one (.bool _) :: r | .one (.str _) :: r => noSl r
 | .one _ :: _ => false
 | .agg cs :: r => cs.all (fun | .int .. | .bool _ | .str _ => true | _ => false) && noSl r
 | .vec _ k _ :: r => k.flat && noSl r
 | .pbx _ :: _ => false
def capArg (c : C) : M (Arg × AI) := match c with
 | .bptr id off => M.bind (M.get id) fun o => match o with
  | .box cs | .cbox _ cs => M.bind (exCs true [] (cs.drop off)) fun a => if a.2.own.isEmpty then .ret (.ro a.1, { a.2 with rd := id :: a.2.rd }) else .fail
  | _ => .fail
 | c => M.bind (exC true none c) fun a => .ret (.v (.one a.1), a.2)
def capArgs : List C → M (List Arg × AI)
 | [] => .ret ([], .e)
 | c :: cs => M.bind (capArg c) fun a => M.bind (capArgs cs) fun b => .ret (a.1 :: b.1, a.2.app b.2)
def asFn (fi : FI) (outs : List SV) (caps : List Arg) : GV := ⟨outs, fun vs =>
 cond (noSl vs) ((fi.sem (vs.map .v ++ caps)).bind fun a => cond (noSl (fi.out a).vals && (fi.out a).ios.all (·.isEmpty)) (decL SV.dec outs (fi.out a).vals) none) none⟩
def exArg (E : Env) (ps : PS) (x : TV) : M (Arg × AI) := match ps, x with
 | .val cks, .v (.one c) => M.bind (exC true (cks.headD none) c) fun a => .ret (.v (.one a.1), a.2)
 | .val cks, .v (.agg cs) => M.bind (exCs true cks cs) fun a => .ret (.v (.agg a.1), a.2)
 | .vec, .v (.vec n k xs) => if k.flat then .ret (.v (.vec n k xs), .e) else .fail
 | .ptr cks, .v (.one (.bptr id off)) => M.bind (M.get id) fun o => match o with
  | .box cs => if off = 0 ∧ cks.length = cs.length then M.bind (exCs false cks cs) fun a => .ret (.ptr a.1, { a.2 with bx := some (id, cs) }) else .fail
  | _ => .fail
 | .ro cks, .v (.one (.bptr id off)) => M.bind (M.get id) fun o => match o with
  | .box cs | .cbox _ cs => M.bind (exCs true cks ((cs.drop off).take cks.length)) fun a => if a.2.own.isEmpty then .ret (.ro a.1, { a.2 with rd := id :: a.2.rd }) else .fail
  | _ => .fail
 | .fn outs, .v (.one (.fn f)) => match E.fi f with
  | some fi => .ret (.fn (asFn fi outs []), .e)
  | none => .fail
 | .fn outs, .v (.one (.clo f id)) => match E.fi f with
  | some fi => M.bind (M.get id) fun o => match o with
   | .clo caps => M.bind (capArgs caps) fun a => .ret (.fn (asFn fi outs a.1), a.2)
   | _ => .fail
  | none => .fail
 | .fn _, .v (.one (.fv j)) => match E.gv[j]? with
  | some g => .ret (.fn g, .e)
  | none => .fail
 | _, _ => .fail
def exArgs (E : Env) : List PS → List TV → M (List Arg × List AI)
 | [], [] => .ret ([], [])
 | p :: ps, x :: xs => M.bind (exArg E p x) fun a => M.bind (exArgs E ps xs) fun b => .ret (a.1 :: b.1, a.2 :: b.2)
 | _, _ => .fail
def imC (tr : List Nat → List Nat) (nid : Nat) : C → Option (C × List Ob)
 | .int k n => some (.int k n, [])
 | .bool b => some (.bool b, [])
 | .str s => some (.str s, [])
 | .slv m k xs => some (.slv (tr m) k xs, [])
 | .own m k xs x => some (.slo nid, [.arr k xs (nm k (tr m)) x])
 | _ => none
def imCs (tr : List Nat → List Nat) (nid : Nat) : List C → Option (List C × List Ob)
 | [] => some ([], [])
 | c :: cs => match imC tr nid c with
  | none => none
  | some (c', n) => match imCs tr (nid + n.length) cs with
   | none => none
   | some (cs', n') => some (c' :: cs', n ++ n')
def imV (tr : List Nat → List Nat) (nid : Nat) : V1 → Option (V1 × List Ob)
 | .one c => (imC tr nid c).map fun a => (.one a.1, a.2)
 | .agg cs => (imCs tr nid cs).map fun a => (.agg a.1, a.2)
 | .vec n k xs => if k.flat then some (.vec n k xs, []) else none
 | .pbx cs => (imCs tr (nid + 1) cs).map fun a => (.one (.bptr nid 0), .box a.1 :: a.2)
def imVs (tr : List Nat → List Nat) (nid : Nat) : List V1 → Option (List V1 × List Ob)
 | [] => some ([], [])
 | v :: vs => match imV tr nid v with
  | none => none
  | some (v', n) => match imVs tr (nid + n.length) vs with
   | none => none
   | some (vs', n') => some (v' :: vs', n ++ n')
def backOwn (tr : List Nat → List Nat) : List (Nat × Bool) → List C → Option (List (Nat × Ob))
 | [], [] => some []
 | (id, true) :: r, .own m k xs x :: cs => (backOwn tr r cs).map fun u => (id, .arr k xs (nm k (tr m)) x) :: u
 | _, _ => none
def backs (tr : List Nat → List Nat) (nid : Nat) : List AI → List (List C) → Option (List (Nat × Ob) × List Ob)
 | [], [] => some ([], [])
 | ai :: ais, io :: ios =>
  match (match ai.bx with
   | some (id, cs) => match imCs tr nid io with
    | some (ns, n) => if ns.length = cs.length then some ((id, Ob.box ns) :: ai.own.map (fun (o : Nat × Bool) => (o.1, Ob.dead)), n) else none
    | none => none
   | none => match io with
    | [] => some (ai.own.map (fun (o : Nat × Bool) => (o.1, Ob.dead)), [])   -- none comes back: they are taken
    | _ :: _ => (backOwn tr ai.own io).map fun u => (u, [])) with
  | none => none
  | some (u, n) => match backs tr (nid + n.length) ais ios with
   | none => none
   | some (u', n') => some (u ++ u', n ++ n')
 | _, _ => none
def maskC : C → List Nat
 | .slv m _ _ | .own m _ _ _ => m
 | _ => []
def maskCs (cs : List C) : List Nat := cs.flatMap maskC
def maskV : V1 → List Nat
 | .one c => maskC c
 | .agg cs => maskCs cs
 | .vec _ _ _ => []
 | .pbx cs => maskCs cs
def CRes.masks (r : CRes) : List Nat := r.vals.flatMap maskV ++ r.ios.flatMap maskCs
def trM (ais : List AI) (m : List Nat) : List Nat := m.foldl (fun acc b => match b with
 | 0 => un acc [0]
 | i + 1 => match ais[i]? with
  | some ai => un acc (un (if ai.bor.isEmpty then [] else [0]) ai.m)
  | none => acc) []
def freezes (used : List Nat) : Nat → List AI → List (Nat × Ob)
 | _, [] => []
 | i, ai :: r => (if used.contains (i + 1) then ai.bor else []) ++ freezes used (i + 1) r
def AI.busy (a : AI) : List Nat := (match a.bx with | some (id, _) => [id] | none => []) ++ a.own.map (·.1)
def AI.reads (a : AI) : List Nat := a.bor.map (·.1) ++ a.rd
def apart (ais : List AI) : Bool := let b := ais.flatMap AI.busy; decide (ais.length ≤ 4096) && decide b.Nodup && (ais.flatMap AI.reads).all fun i => !b.contains i
def tvOf : List V1 → TV
 | [v] => .v v
 | vs => .tup vs
def postC (ais : List AI) (nid : Nat) (r : CRes) : Option Eff :=
 let tr := trM ais
 if r.masks.all (fun b => decide (b ≤ ais.length)) = false then none else match imVs tr nid r.vals with
 | none => none
 | some (vs, n) => match backs tr (nid + n.length) ais r.ios with
  | none => none
  | some (u, n') => some ⟨tvOf vs, freezes r.masks 0 ais ++ u, n ++ n'⟩
def pCallF (E : Env) (nid f : Nat) (args : List TV) (caps : List C) : M Res1 := match E.fi f with
 | none => .fail
 | some fi => M.bind (exArgs E fi.ps (args ++ caps.map one1)) fun a => if apart a.2 then .ret ⟨true, .call f a.1 (postC a.2 nid)⟩ else .fail
def v1s : List TV → Option (List V1)
 | [] => some []
 | .v x :: r => (v1s r).map (x :: ·)
 | _ => none
def pCallV (E : Env) (nid : Nat) (f : C) (args : List TV) : M Res1 := match f with
 | .fn g => pCallF E nid g args []
 | .clo g id => M.bind (M.get id) fun o => match o with
  | .clo caps => pCallF E nid g args caps
  | _ => .fail
 | .fv j => match v1s args with
  | some vs => if noSl vs then .ret ⟨true, .callv j vs fun rs => if noSl rs then some ⟨tvOf rs, [], []⟩ else none⟩ else .fail
  | none => .fail
 | _ => .fail
def eqD : TD → C → C → Option Bool
 | .int _, .int k a, .int k' b => if k = k' then some (a == b) else none
 | .bool, .bool a, .bool b => some (a == b)
 | .str, .str a, .str b => some (sEq a b)
 | _, _, _ => none
def eqP (E : Env) (rc : Nat → List C → List C → Option Bool) (as bs : List C) (x : Nat × Nat) : Option Bool := match E.ti x.2 with
 | none => none
 | some fi => match mk fi ((as.drop x.1).take fi.size), mk fi ((bs.drop x.1).take fi.size) with
  | some (.one a), some (.one b) => eqD fi.d a b
  | some (.agg as'), some (.agg bs') => rc x.2 as' bs'
  | _, _ => none
def eqF (E : Env) (rc : Nat → List C → List C → Option Bool) (as bs : List C) : List (Nat × Nat) → Option Bool
 | [] => some true
 | [x] => eqP E rc as bs x
 | x :: r => match eqP E rc as bs x, eqF E rc as bs r with
  | some p, some q => some (p && q)
  | _, _ => none
def eqT (E : Env) : Nat → Nat → List C → List C → Option Bool
 | 0, _, _, _ => none
 | f + 1, t, as, bs => match E.ti t with
  | none => none
  | some ti => match ti.d with
   | .struct fs => eqF E (eqT E f) as bs fs
   | _ => none
def isBoolT (E : Env) (t : Nat) : Bool := match E.ti t with
 | some ti => match ti.d with
  | .bool => true
  | _ => false
 | none => false
inductive BS where
 | len (t : Nat) (x : V1) | app (t t2 : Nat) (s x : C) | mxn (k : IntKind) (n : Int)
def selB : Builtin → List TV → List Nat → Option BS
 | .len, [.v x], [t] => some (.len t x)
 | .append, [.v (.one s), .v (.one x)], [t, t2] => some (.app t t2 s x)
 | .max, .v (.one (.int k n)) :: r, _ => (foldI mx2 k n r).map (.mxn k)
 | .min, .v (.one (.int k n)) :: r, _ => (foldI mn2 k n r).map (.mxn k)
 | _, _, _ => none
def one : TV → Option C
 | .v (.one c) => some c
 | _ => none
def v1 : TV → Option V1
 | .v x => some x
 | _ => none
def oneO (ρ : Operand → Option TV) : Option Operand → Option (Option C)
 | none => some none
 | some x => match ρ x with
  | some (.v (.one c)) => some (some c)
  | _ => none
def partsO (ρ : Operand → Option TV) : List (Nat × Operand) → Option (List (Nat × V1))
 | [] => some []
 | (i, x) :: r => match ρ x, partsO ρ r with
  | some (.v v), some l => some ((i, v) :: l)
  | _, _ => none
def tvsO (ρ : Operand → Option TV) : List Operand → Option (List TV)
 | [] => some []
 | x :: r => match ρ x, tvsO ρ r with
  | some v, some l => some (v :: l)
  | _, _ => none
def onesO (ρ : Operand → Option TV) : List Operand → Option (List C)
 | [] => some []
 | x :: r => match ρ x, onesO ρ r with
  | some (.v (.one c)), some l => some (c :: l)
  | _, _ => none
def pre0 (E : Env) (o : Oper) (ρ : Operand → Option TV) (nid : Nat) : M Res1 :=
 match o.op with
 | .move x | .assign x => M.bind (M.opt (ρ x)) fun v => done true v
 | .alloc t => pAlloc E t nid
 | .box t x => match E.ti t, ρ x with
  | some ti, some (.v v) => pBox ti nid v
  | _, _ => .fail
 | .build t ps => match partsO ρ ps.toList with
  | some l => pBuild E t l
  | none => .fail
 | .buildSlice t n ps => match partsO ρ ps.toList with
  | some l => pBuildSlice E t n nid l
  | none => .fail
 | .load t a => match E.ti t, ρ a with
  | some ti, some (.v (.one p)) => M.bind (pLoad ti p) fun v => done true (.v v)
  | _, _ => .fail
 | .store t a x => match E.ti t, ρ a, ρ x with
  | some ti, some (.v (.one p)), some (.v v) => pStore ti v p
  | _, _, _ => .fail
 | .nilCheck x => match ρ x with
  | some (.v (.one c)) => match c with
   | .bptr .. | .aptr _ | .eptr .. | .rptr .. | .fn _ | .clo .. => done true (one1 c)
   | _ => .fail
  | _ => .fail
 | .binOp op t x y _ => match ρ x, ρ y with
  | some (.v (.one a)), some (.v (.one b)) => match binC (isBoolT E t) op a b with
   | some (g, c) => done g (one1 c)
   | none => .fail
  | some (.v (.agg as)), some (.v (.agg bs)) => match op, eqT E 6 t as bs with
   | .eql, some b => done true (one1 (.bool b))
   | .neq, some b => done true (one1 (.bool (!b)))
   | _, _ => .fail
  | _, _ => .fail
 | .unOp op _ x => match ρ x with
  | some (.v (.one a)) => match unC op a with
   | some c => done true (one1 c)
   | none => .fail
  | _ => .fail
 | .convert s d x => match ρ x with
  | some (.v (.one a)) => pConvert E s d nid a
  | _ => .fail
 | .makeFunc (.func f) first caps => if first.isEmpty then (match onesO ρ caps.toList with
  | some [] => done true (one1 (.fn f))
  | some cs => if cs.all C.plain = true then done true (one1 (.clo f nid)) [] [.clo cs] else .fail
  | none => .fail) else .fail
 | .makeSlice t l c => match ρ l, ρ c with
  | some (.v (.one l)), some (.v (.one c)) => pMake E t nid l c
  | _, _ => .fail
 | .slice t x lo hi mx => match ρ x, oneO ρ lo, oneO ρ hi, oneO ρ mx with
  | some (.v (.one c)), some lo, some hi, some mx => pSlice E (match o.dst with | some d => E.mv.contains d | none => false) t nid c lo hi mx
  | _, _, _, _ => .fail
 | .fieldAddr t x f => match ρ x with
  | some (.v (.one c)) => pFieldAddr E t f c
  | _ => .fail
 | .field t x f => match ρ x with
  | some (.v v) => pField E t f v
  | _ => .fail
 | .indexAddr t x i => match ρ x, ρ i with
  | some (.v (.one c)), some (.v (.one i)) => pIndexAddr E t c i
  | _, _ => .fail
 | .index t x i => match ρ x, ρ i with
  | some (.v v), some (.v (.one i)) => pIndex E t v i
  | _, _ => .fail
 | .extract x i => match ρ x with
  | some (.tup vs) => match vs[i]? with
   | some v => done true (.v v)
   | none => .fail
  | _ => .fail
 | .call ⟨.builtin b, args, ts⟩ => match tvsO ρ args.toList with
  | none => .fail
  | some vs => match selB b vs ts.toList with
   | none => .fail
   | some (.len t x) => pLen E t x
   | some (.app t t2 s x) => pAppend E t t2 nid s x
   | some (.mxn k n) => done true (one1 (.int k n))
 | .call ⟨.value f, args, _⟩ => match ρ f, tvsO ρ args.toList with
  | some (.v (.one c)), some vs => pCallV E nid c vs
  | _, _ => .fail
 | _ => .fail
def mapV (f : C → C) : V1 → V1
 | .one c => .one (f c)
 | .agg cs => .agg (cs.map f)
 | v => v
def mapT (f : C → C) : TV → TV
 | .v x => .v (mapV f x)
 | .tup xs => .tup (xs.map (mapV f))
def frzS (id : Nat) (k : Kd) (xs : List (El k)) (m : List Nat) : C → C
 | .slo i => cond (Nat.beq i id) (.slv (un [0] m) k xs) (.slo i)
 | c => c
def frz1 (nid : Nat) (e : Eff) (q : Nat) : Eff := match e.news[q]? with
 | some (.arr k xs m _) => ⟨mapT (frzS (nid + q) k xs m) e.val, e.upd, e.news.set q (.arr k xs m false)⟩
 | _ => e
def frzE (nid : Nat) (e : Eff) : Eff := (List.range e.news.length).foldl (frz1 nid) e
def Res1.frz (nid : Nat) (r : Res1) : Res1 := ⟨r.g, match r.act with
 | .done e => .done (frzE nid e)
 | .call f args post => .call f args fun x => (post x).map (frzE nid)
 | .callv j args post => .callv j args fun x => (post x).map (frzE nid)⟩
def frzD (E : Env) (o : Oper) : Bool := match o.dst with
 | some d => E.fz.contains d
 | none => false
def pre (E : Env) (o : Oper) (ρ : Operand → Option TV) (nid : Nat) : M Res1 := cond (frzD E o) (M.bind (pre0 E o ρ nid) fun r => .ret (r.frz nid)) (pre0 E o ρ nid)
structure St where
 tmps : List (Nat × TV)
 heap : List Ob
structure Kp where
 vals : List TV
 heap : List Ob
inductive Ex where
 | nrm | ext (id : Nat) | ret
inductive Cast where
 | own (k : Kd) | slv (m : List Nat) (k : Kd) | wide (m : List Nat) | frz (m : List Nat)
structure CastAt where
 t : Nat
 bx : Bool   -- in the variable that the slot points to
 j : Nat
 c : Cast
structure Sum where
 kin : List CastAt × List Nat
 f : (R : Type) → Kp → (Ex → Kp → Option R) → Option R
 kout : Ex → List CastAt × List Nat
inductive Hint where
 | a | n (x y : Hint) | b (x : Hint) | s (s : Sum) | r (s : Sum)
def setO (h : List Ob) (u : List (Nat × Ob)) : List Ob := u.foldl (fun h x => h.set x.1 x.2) h
def St.put (σ : St) (d : Option Nat) (v : TV) : St := match d with
 | some t => { σ with tmps := putT σ.tmps t v }
 | none => σ
def subL (a b : List Nat) : Bool := a.all fun x => b.contains x
def castC (c : Cast) (h : List Ob) (x : C) : Option (C × List Ob) := match x, c with
 | .nil, .own k => some (.slo h.length, h ++ [.arr k [] [] true])
 | .nil, .slv m k => some (.slv m k [], h)
 | .slv m' k xs, .slv m _ => if subL m' m then some (.slv m k xs, h) else none
 | .slo id, c => match h[id]? with
  | some (.arr k xs m' b) => match c with
   | .own _ => some (.slo id, h)
   | .slv m _ => if subL (0 :: m') m then some (.slv m k xs, h.set id (.arr k xs m' false)) else none
   | .wide m => if subL m' m then some (.slo id, h.set id (.arr k xs (nm k m) b)) else none
   | .frz m => if subL m' m then some (.slo id, h.set id (.arr k xs (nm k m) false)) else none
  | _ => none
 | _, _ => none
def castV (c : Cast) (j : Nat) (h : List Ob) : V1 → Option (V1 × List Ob)
 | .one x => (castC c h x).map fun a => (.one a.1, a.2)
 | .agg cs => match cs[j]? with
  | some x => (castC c h x).map fun a => (.agg (cs.set j a.1), a.2)
  | none => none
 | _ => none
def castAt (a : CastAt) (σ : St) : Option St := match lk σ.tmps a.t with
 | some (.v v) => if a.bx then (match v with
   | .one (.bptr id off) => match σ.heap[id]? with
    | some (.box cs) => match cs[off + a.j]? with
     | some x => (castC a.c σ.heap x).map fun b => { σ with heap := b.2.set id (.box (cs.set (off + a.j) b.1)) }
     | none => none
    | _ => none
   | _ => none) else (castV a.c a.j σ.heap v).map fun b => ⟨putT σ.tmps a.t (.v b.1), b.2⟩
 | _ => none
def castX : List CastAt → St → Option St
 | [], σ => some σ
 | a :: r, σ => match castAt a σ with
  | none => none
  | some σ => castX r σ
def frzC (h : List Ob) : C → Option Cast
 | .slo id => match h[id]? with
  | some (.arr k _ m _) => some (.slv (un [0] m) k)
  | _ => none
 | _ => none
def frzL (h : List Ob) (t : Nat) : Nat → List C → List CastAt
 | _, [] => []
 | j, c :: cs => (match frzC h c with
  | some q => [⟨t, false, j, q⟩]
  | none => []) ++ frzL h t (j + 1) cs
def frzT (σ : St) (t : Nat) : List CastAt := match lk σ.tmps t with
 | some (.v (.one c)) => frzL σ.heap t 0 [c]
 | some (.v (.agg cs)) => frzL σ.heap t 0 cs
 | _ => []
def frzX (σ : St) : List Nat → Option St
 | [] => some σ
 | t :: ts => match castX (frzT σ t) σ with
  | none => none
  | some σ => frzX σ ts
def inN (E : Env) : Option Nat → Bool
 | some t => decide (t < E.nt)
 | none => true
structure Foot where
 i : Nat
 rd : List Nat
 wr : List Nat
 tr : List Nat
 tw : List Nat
def meets (a b : List Nat) : Bool := a.any fun x => b.contains x
def clash (a b : Foot) : Bool := meets a.wr (b.rd ++ b.wr) || meets a.rd b.wr || meets a.tw (b.tr ++ b.tw) || meets a.tr b.tw
def opTmps (o : Oper) : List Nat := o.op.operands.toList.filterMap fun | .tmp t => some t | _ => none
def predOf (acc : List (List Nat)) (o : Oper) : List Nat := o.after.toList.foldl (fun s e => if Region.binds .any e then un s (e.on :: acc.getD e.on []) else s) []
def predsGo : List Oper → List (List Nat) → List (List Nat)
 | [], acc => acc
 | o :: r, acc => predsGo r (acc ++ [predOf acc o])
def preds (ops : List Oper) : List (List Nat) := predsGo ops []
def okEdges : Nat → List Oper → Bool
 | _, [] => true
 | i, o :: r => o.after.toList.all (fun e => !Region.binds .any e || decide (e.on < i)) && okEdges (i + 1) r
def okPairs (pr : List (List Nat)) : List Foot → Bool
 | [] => true
 | a :: r => r.all (fun b => !clash a b || (pr.getD b.i []).contains a.i) && okPairs pr r
def Res1.go {R : Type} (E : Env) (heap : List Ob) (K : Eff → Option R) (r : Res1) : Option R :=
 cond r.g (match r.act with
  | .done e => K e
  | .call f args post => match E.fi f with
   | none => none
   | some fi => (fi.sem args).bind fun a => match post (fi.out a) with
    | some e => K e
    | none => none
  | .callv j args post => match E.gv[j]? with
   | none => none
   | some g => (g.sem args).bind fun rs => match post (g.enc rs) with
    | some e => K e
    | none => none) none
def foot (i : Nat) (o : Oper) (rd : List Nat) (nid : Nat) (e : Eff) : Foot := ⟨i, rd, e.upd.map (·.1) ++ (List.range e.news.length).map (nid + ·), opTmps o, o.dst.toList⟩
def dstOf (all : List Oper) (j : Nat) : Option Nat := match all[j]? with
 | some o => o.dst
 | none => none
def condO {R : Type} (σ : St) (x : Operand) (K : Bool → St → Option R) : Option R := match ev σ.tmps x with
 | some (.v (.one (.bool b))) => match x with
  | .tmp t => cond b (K true (σ.put (some t) (one1 (.bool true)))) (K false (σ.put (some t) (one1 (.bool false))))
  | _ => cond b (K true σ) (K false σ)
 | _ => none
def stepO {R : Type} (E : Env) (i : Nat) (o : Oper) (σ : St) (K : Foot → St → Option R) : Option R :=
 cond (inN E o.dst) (match o.op with
 | .pick c a b => condO σ c fun p σ => match ev σ.tmps (if p then a else b) with
  | some v => K ⟨i, [], [], opTmps o, o.dst.toList⟩ (σ.put o.dst v)
  | none => none
 | _ => match pre E o (ev σ.tmps) σ.heap.length (fun id => σ.heap[id]?) with
  | none => none
  | some (r, rd) => r.go E σ.heap fun e => cond (e.upd.all fun x => decide (x.1 < σ.heap.length)) (K (foot i o rd σ.heap.length e) (St.put { σ with heap := setO σ.heap e.upd ++ e.news } o.dst e.val)) none) none
open Classical in
noncomputable def agree {R : Type} (x y : Option R) : Option R := if x = y then x else none
noncomputable def nilO {R : Type} (E : Env) (t : Nat) (σ : St) (x : Operand) (K : Bool → Option R) : Option R := match E.ti t with
 | some ⟨_, _, .slice _, _, _⟩ => match ev σ.tmps x with
  | some (.v (.one .nil)) => agree (K true) (K false)
  | some (.v (.one (.slv _ _ xs))) => cond xs.isEmpty (agree (K true) (K false)) (K false)
  | some (.v (.one (.slo id))) => match σ.heap[id]? with
   | some (.arr _ xs _ _) => cond xs.isEmpty (agree (K true) (K false)) (K false)
   | _ => none
  | _ => none
 | _ => none
noncomputable def stepN {R : Type} (E : Env) (i : Nat) (o : Oper) (σ : St) (K : Foot → St → Option R) : Option R := match o.op with
 | .binOp .eql t x (.const (.slice none 0 0)) _ => cond (inN E o.dst) (nilO E t σ x fun b => K ⟨i, [], [], opTmps o, o.dst.toList⟩ (σ.put o.dst (one1 (.bool b)))) none
 | .binOp .neq t x (.const (.slice none 0 0)) _ => cond (inN E o.dst) (nilO E t σ x fun b => K ⟨i, [], [], opTmps o, o.dst.toList⟩ (σ.put o.dst (one1 (.bool (!b))))) none
 | _ => cond E.fz.isEmpty (stepO E i o σ K) (match frzX σ ((opTmps o).filter fun t => E.fz.contains t) with
  | some σ => stepO E i o σ K
  | none => none)
noncomputable def stepQ {R : Type} (nn : Bool) (E : Env) (i : Nat) (o : Oper) (σ : St) (K : Foot → St → Option R) : Option R := cond nn (stepN E i o σ K) (stepO E i o σ K)
noncomputable def regionX {R : Type} (nn : Bool) (E : Env) (all : List Oper) (chk : List Foot → Bool) : Nat → List Oper → List Foot → St → (St → Option R) → Option R
 | _, [], fs, σ, K => cond (chk fs) (K σ) none
 | i, o :: r, fs, σ, K => match o.guard with
  | none => stepQ nn E i o σ fun f σ => regionX nn E all chk (i + 1) r (fs ++ [f]) σ K
  | some (j, want) => match dstOf all j with
   | none => none
   | some t => match lk σ.tmps t with
    | some (.v (.one (.bool _))) => condO σ (.tmp t) fun b σ =>
     if b == want then stepQ nn E i o σ fun f σ => regionX nn E all chk (i + 1) r (fs ++ [{ f with tr := t :: f.tr }]) σ K
     else cond (inN E o.dst) (regionX nn E all chk (i + 1) r (fs ++ [⟨i, [], [], [t], o.dst.toList⟩]) (σ.put o.dst (.tup [])) K) none
    | some (.tup []) => cond (inN E o.dst) (regionX nn E all chk (i + 1) r (fs ++ [⟨i, [], [], [t], o.dst.toList⟩]) (σ.put o.dst (.tup [])) K) none
    | _ => none
def rnI (mp : List Nat) (id : Nat) : Nat × List Nat := match mp.findIdx? (· == id) with
 | some i => (i, mp)
 | none => (mp.length, mp ++ [id])
def rnC (mp : List Nat) : C → C × List Nat
 | .slo id => let a := rnI mp id; (.slo a.1, a.2)
 | .bptr id off => let a := rnI mp id; (.bptr a.1 off, a.2)
 | .aptr id => let a := rnI mp id; (.aptr a.1, a.2)
 | .eptr id i sz off => let a := rnI mp id; (.eptr a.1 i sz off, a.2)
 | .clo f id => let a := rnI mp id; (.clo f a.1, a.2)
 | c => (c, mp)
def rnCs (mp : List Nat) : List C → List C × List Nat
 | [] => ([], mp)
 | c :: cs => let a := rnC mp c; let b := rnCs a.2 cs; (a.1 :: b.1, b.2)
def rnV (mp : List Nat) : V1 → V1 × List Nat
 | .one c => let a := rnC mp c; (.one a.1, a.2)
 | .agg cs => let a := rnCs mp cs; (.agg a.1, a.2)
 | v => (v, mp)
def rnVs (mp : List Nat) : List V1 → List V1 × List Nat
 | [] => ([], mp)
 | c :: cs => let a := rnV mp c; let b := rnVs a.2 cs; (a.1 :: b.1, b.2)
def rnT (mp : List Nat) : TV → TV × List Nat
 | .v x => let a := rnV mp x; (.v a.1, a.2)
 | .tup xs => let a := rnVs mp xs; (.tup a.1, a.2)
def rnTs (mp : List Nat) : List TV → List TV × List Nat
 | [] => ([], mp)
 | c :: cs => let a := rnT mp c; let b := rnTs a.2 cs; (a.1 :: b.1, b.2)
def rnO (mp : List Nat) : Ob → Ob × List Nat
 | .box cs => let a := rnCs mp cs; (.box a.1, a.2)
 | .cbox m cs => let a := rnCs mp cs; (.cbox m a.1, a.2)
 | .clo cs => let a := rnCs mp cs; (.clo a.1, a.2)
 | o => (o, mp)
def rnH (h : List Ob) : Nat → Nat → List Nat → Option (List Ob × List Nat)
 | 0, _, _ => none
 | f + 1, i, mp => match mp[i]? with
  | none => some ([], mp)
  | some id => match h[id]? with
   | none => none
   | some o => let a := rnO mp o; match rnH h f (i + 1) a.2 with
    | none => none
    | some (os, mp') => some (a.1 :: os, mp')
def keepV (l : List (Nat × TV)) (ts : List Nat) : List TV := ts.map fun t => match lk l t with
 | some v => v
 | none => .v (.one .undef)
def norm (E : Env) (keep : List Nat) (σ : St) : Option Kp :=
 if keep.all (fun t => decide (t < E.nt)) = false then none else
 let a := rnTs (List.range E.ne) (keepV σ.tmps keep)
 match rnH σ.heap (σ.heap.length + 1) 0 a.2 with
 | none => none
 | some (os, _) => some ⟨a.1, os⟩
def normC (E : Env) (ck : List CastAt × List Nat) (σ : St) : Option Kp := match castX ck.1 σ with
 | none => none
 | some σ => norm E ck.2 σ
def Kp.st (keep : List Nat) (k : Kp) : St := ⟨keep.zip k.vals, k.heap⟩
noncomputable def exec {R : Type} (E : Env) : Code → Hint → St → (Ex → St → Option R) → Option R
 | .skip, .a, σ, K => K .nrm σ
 | .label _, .a, σ, K => K .nrm σ
 | .ret, .a, σ, K => K .ret σ
 | .exit id, .a, σ, K => K (.ext id) σ
 | .region _ ops draw, .a, σ, K => regionX (!draw) E ops.toList (if draw then (fun fs => okEdges 0 ops.toList && okPairs (preds ops.toList) fs) else fun _ => true) 0 ops.toList [] σ (K .nrm)
 | .seq x y, .n h h', σ, K => exec E x h σ fun e σ => match e with
  | .nrm => exec E y h' σ K
  | e => K e σ
 | .seq x y, .a, σ, K => exec E x .a σ fun e σ => match e with
  | .nrm => exec E y .a σ K
  | e => K e σ
 | .seq (.region _ ops false) _, .r s, σ, K => regionX true E ops.toList (fun _ => true) 0 ops.toList.dropLast [] σ fun σ => match normC E s.kin σ with
  | none => none
  | some kp => s.f R kp fun e kp' => K e (kp'.st (s.kout e).2)
 | .cond c x y, .n h h', σ, K => condO σ c fun b σ => if b then exec E x h σ K else exec E y h' σ K
 | .cond c x y, .a, σ, K => condO σ c fun b σ => if b then exec E x .a σ K else exec E y .a σ K
 | .block id x, .b h, σ, K => exec E x h σ fun e σ => match e with
  | .ext id' => if id' = id then K .nrm σ else K (.ext id') σ
  | e => K e σ
 | .block id x, .a, σ, K => exec E x .a σ fun e σ => match e with
  | .ext id' => if id' = id then K .nrm σ else K (.ext id') σ
  | e => K e σ
 | _, .s s, σ, K => match normC E s.kin σ with
  | none => none
  | some kp => s.f R kp fun e kp' => K e (kp'.st (s.kout e).2)
 | _, _, _, _ => none
structure Exit1 where
 ptr : Option Nat
 own : List Nat
def inC (m nid : Nat) : C → Option (C × List Ob)
 | .int k n => some (.int k n, [])
 | .bool b => some (.bool b, [])
 | .str s => some (.str s, [])
 | .slv _ k xs => some (.slv [m] k xs, [])
 | .own _ k xs x => some (.slo nid, [.arr k xs (nm k [m]) x])
 | _ => none
def inCs (m nid : Nat) : List C → Option (List C × List Ob)
 | [] => some ([], [])
 | c :: cs => match inC m nid c with
  | none => none
  | some (c', n) => match inCs m (nid + n.length) cs with
   | none => none
   | some (cs', n') => some (c' :: cs', n ++ n')
def ownsAt (nid : Nat) (n : List Ob) : List Nat := (List.range n.length).map (nid + ·)
def enter1 (i nid j : Nat) (a : Arg) : Option (TV × List Ob × Exit1 × List GV) := match a with
 | .v (.one c) => (inC (i + 1) nid c).map fun (c, n) => (one1 c, n, ⟨none, ownsAt nid n⟩, [])
 | .v (.agg cs) => (inCs (i + 1) nid cs).map fun (cs, n) => (.v (.agg cs), n, ⟨none, ownsAt nid n⟩, [])
 | .v (.vec n k xs) => if k.flat then some (.v (.vec n k xs), [], ⟨none, []⟩, []) else none
 | .v (.pbx _) => none
 | .ptr cs => (inCs (i + 1) (nid + 1) cs).map fun (cs, n) => (one1 (.bptr nid 0), .box cs :: n, ⟨some nid, []⟩, [])
 | .ro cs => (inCs (i + 1) (nid + 1) cs).bind fun (cs, n) => if n.isEmpty then some (one1 (.bptr nid 0), [.cbox [i + 4097] cs], ⟨none, []⟩, []) else none
 | .fn g => some (one1 (.fv j), [], ⟨none, []⟩, [g])
def enter : Nat → Nat → Nat → List Arg → Option (List TV × List Ob × List Exit1 × List GV)
 | _, _, _, [] => some ([], [], [], [])
 | i, nid, j, a :: as => match enter1 i nid j a with
  | none => none
  | some (v, n, x, g) => match enter (i + 1) (nid + n.length) (j + g.length) as with
   | none => none
   | some (vs, n', xs, gs) => some (v :: vs, n ++ n', x :: xs, g ++ gs)
def outC (ck : Option (Kd × Bool)) : C → M (C × List Nat)
 | .int k n => .ret (.int k n, [])
 | .bool b => .ret (.bool b, [])
 | .str s => .ret (.str s, [])
 | .slv m k xs => match ck with
  | some (_, true) => .fail
  | _ => .ret (.slv m k xs, [])
 | .nil => match ck with
  | some (k, true) => .ret (.own [] k [] true, [])
  | some (k, false) => .ret (.slv [] k [], [])
  | none => .fail
 | .slo id => M.bind (M.get id) fun o => match o, ck with
  | .arr k xs m b, some (_, true) => .ret (.own m k xs b, [id])
  | _, _ => .fail
 | _ => .fail
def outCs : List (Option (Kd × Bool)) → List C → M (List C × List Nat)
 | _, [] => .ret ([], [])
 | cks, c :: cs => M.bind (outC (cks.headD none) c) fun a => M.bind (outCs cks.tail cs) fun b => .ret (a.1 :: b.1, a.2 ++ b.2)
def outV (cks : List (Option (Kd × Bool))) : V1 → M (V1 × List Nat)
 | .one (.bptr id 0) => M.bind (M.get id) fun o => match o with
  | .box cs => M.bind (outCs cks cs) fun a => .ret (.pbx a.1, id :: a.2)
  | _ => .fail
 | .one c => M.bind (outC (cks.headD none) c) fun a => .ret (.one a.1, a.2)
 | .agg cs => M.bind (outCs cks cs) fun a => .ret (.agg a.1, a.2)
 | .vec n k xs => if k.flat then .ret (.vec n k xs, []) else .fail
 | .pbx _ => .fail
def outOwn : List Nat → M (List C × List Nat)
 | [] => .ret ([], [])
 | id :: r => M.bind (M.get id) fun o => match o with
  | .arr k xs m b => M.bind (outOwn r) fun a => .ret (.own m k xs b :: a.1, id :: a.2)
  | _ => .fail
structure Way where
 rs : List (List (Option (Kd × Bool)))
 ps : List (List (Option (Kd × Bool)))
 cs : List CastAt
def outIos (ps : List (List (Option (Kd × Bool)))) : List Exit1 → M (List (List C) × List Nat)
 | [] => .ret ([], [])
 | x :: xs => M.bind (match x.ptr with
   | some id => M.bind (M.get id) fun o => match o with
    | .box cs => M.bind (outCs (ps.headD []) cs) fun a => .ret (a.1, id :: a.2)
    | _ => .fail
   | none => match ps.headD [] with
    | [] => outOwn x.own
    | _ :: _ => .ret ([], [])) fun a => M.bind (outIos ps.tail xs) fun b => .ret (a.1 :: b.1, a.2 ++ b.2)
def resV (E : Env) (tmps : List (Nat × TV)) : ResultVar → M V1
 | .tmp t => match lk tmps t with
  | some (.v x) => .ret x
  | _ => .fail
 | .cell a t => match lk tmps a, E.ti t with
  | some (.v (.one p)), some ti => pLoad ti p
  | _, _ => .fail
def outRs (E : Env) (tmps : List (Nat × TV)) : List (List (Option (Kd × Bool))) → List ResultVar → M (List V1 × List Nat)
 | _, [] => .ret ([], [])
 | ws, r :: rs => M.bind (resV E tmps r) fun v => M.bind (outV (ws.headD []) v) fun a => M.bind (outRs E tmps ws.tail rs) fun b => .ret (a.1 :: b.1, a.2 ++ b.2)
def leave (E : Env) (w : Way) (rs : List ResultVar) (xs : List Exit1) (σ : St) : M CRes :=
 M.bind (outRs E σ.tmps w.rs rs) fun a => M.bind (outIos w.ps xs) fun b =>
  if (a.2 ++ b.2).Nodup then .ret ⟨a.1, b.1⟩ else .fail
def number (i : Nat) : List TV → List (Nat × TV)
 | [] => []
 | v :: r => (i, v) :: number (i + 1) r
def fin (E : Env) (w : Way) (rs : List ResultVar) (xs : List Exit1) : Ex → St → Option CRes := fun e σ => match e with
 | .nrm | .ret => (match castX w.cs σ with
  | none => none
  | some σ => match leave E w rs xs σ (fun id => σ.heap[id]?) with
   | some (r, _) => some r
   | none => none)
 | _ => none
def fixedB (ne : Nat) (xs : List Exit1) : Bool := xs.all fun x => (match x.ptr with | some i => Nat.ble (i + 1) ne | none => true) && x.own.all fun i => Nat.ble (i + 1) ne
noncomputable def run (E : Env) (w : Way) (rs : List ResultVar) (c : Code) (h : List GV → Hint) (args : List Arg) : Option CRes :=
 match enter 0 0 0 args with
 | none => none
 | some (vs, heap, xs, gs) => cond (Nat.ble E.ne heap.length && fixedB E.ne xs) (exec { E with gv := gs } c (h gs) ⟨number 0 vs, heap⟩ (fin E w rs xs)) none
end Go.Proofs.YtdhifkdijlghdaaGreatDoorA
