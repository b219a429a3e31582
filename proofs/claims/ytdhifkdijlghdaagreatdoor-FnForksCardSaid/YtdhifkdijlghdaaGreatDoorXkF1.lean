/-
  Functions of the program, and that the small machine's runs are these. No condition.
  Printed by wip/amp/main.py (a session's own program) out of Lean's print of the program; Lean's kernel checks it.
-/
import Derived.Test.YtdhifkdijlghdaaGreatDoorXkF0
namespace Go.Proofs.YtdhifkdijlghdaaGreatDoorA
open Go
noncomputable section
set_option linter.unusedVariables false
set_option linter.unusedSimpArgs false
set_option maxRecDepth 100000
def gq211.l1 {R : Type} (kke0 : List Int → List Int → List Int → Option R) : Nat → Int → List Int → List Int → List Int → List Int → List Int → Option R
 | 0, _, _, _, _, _, _ => none
 | n + 1, i, words, k_, l, v, w =>
  cond (decide (i < (64 : Int))) (
   grd (gIx (0 : Int) 8) <|
   grd (gIx (1 : Int) 8) <|
   grd (gIx (2 : Int) 8) <|
   grd (gIx (4 : Int) 8) <|
   grd (gIx (5 : Int) 8) <|
   grd (gIx (6 : Int) 8) <|
   grd (gIx (7 : Int) 8) <|
   (gq277 (rdE (.int .u32 : Kd) v (Int.toNat (4 : Int))) (6 : Int)).bind fun r =>
   (gq277 (rdE (.int .u32 : Kd) v (Int.toNat (4 : Int))) (11 : Int)).bind fun r1 =>
   (gq277 (rdE (.int .u32 : Kd) v (Int.toNat (4 : Int))) (25 : Int)).bind fun r2 =>
   grd (gIx i 64) <|
   grd (gIx i 64) <|
   (gq277 (rdE (.int .u32 : Kd) v (Int.toNat (0 : Int))) (2 : Int)).bind fun r3 =>
   (gq277 (rdE (.int .u32 : Kd) v (Int.toNat (0 : Int))) (13 : Int)).bind fun r4 =>
   (gq277 (rdE (.int .u32 : Kd) v (Int.toNat (0 : Int))) (22 : Int)).bind fun r5 =>
   grd (gIx (3 : Int) 8) <|
   gq211.l1 kke0 n (IntKind.wrap .i64 (i + (1 : Int))) words k_ l [IntKind.wrap .u32 ((IntKind.wrap .u32 ((IntKind.wrap .u32 ((IntKind.wrap .u32 ((IntKind.wrap .u32 ((rdE (.int .u32 : Kd) v (Int.toNat (7 : Int))) + (iXor .u32 (iXor .u32 r r1) r2))) + (iOr .u32 (iAnd .u32 (rdE (.int .u32 : Kd) v (Int.toNat (4 : Int))) (rdE (.int .u32 : Kd) v (Int.toNat (5 : Int)))) (iAnd .u32 (iXor .u32 (IntKind.max .u32) (rdE (.int .u32 : Kd) v (Int.toNat (4 : Int)))) (rdE (.int .u32 : Kd) v (Int.toNat (6 : Int))))))) + (rdE (.int .u32 : Kd) k_ (Int.toNat i)))) + (rdE (.int .u32 : Kd) w (Int.toNat i)))) + (IntKind.wrap .u32 ((iXor .u32 (iXor .u32 r3 r4) r5) + (iOr .u32 (iOr .u32 (iAnd .u32 (rdE (.int .u32 : Kd) v (Int.toNat (0 : Int))) (rdE (.int .u32 : Kd) v (Int.toNat (1 : Int)))) (iAnd .u32 (rdE (.int .u32 : Kd) v (Int.toNat (0 : Int))) (rdE (.int .u32 : Kd) v (Int.toNat (2 : Int))))) (iAnd .u32 (rdE (.int .u32 : Kd) v (Int.toNat (1 : Int))) (rdE (.int .u32 : Kd) v (Int.toNat (2 : Int)))))))), rdE (.int .u32 : Kd) v (Int.toNat (0 : Int)), rdE (.int .u32 : Kd) v (Int.toNat (1 : Int)), rdE (.int .u32 : Kd) v (Int.toNat (2 : Int)), IntKind.wrap .u32 ((rdE (.int .u32 : Kd) v (Int.toNat (3 : Int))) + (IntKind.wrap .u32 ((IntKind.wrap .u32 ((IntKind.wrap .u32 ((IntKind.wrap .u32 ((rdE (.int .u32 : Kd) v (Int.toNat (7 : Int))) + (iXor .u32 (iXor .u32 r r1) r2))) + (iOr .u32 (iAnd .u32 (rdE (.int .u32 : Kd) v (Int.toNat (4 : Int))) (rdE (.int .u32 : Kd) v (Int.toNat (5 : Int)))) (iAnd .u32 (iXor .u32 (IntKind.max .u32) (rdE (.int .u32 : Kd) v (Int.toNat (4 : Int)))) (rdE (.int .u32 : Kd) v (Int.toNat (6 : Int))))))) + (rdE (.int .u32 : Kd) k_ (Int.toNat i)))) + (rdE (.int .u32 : Kd) w (Int.toNat i))))), rdE (.int .u32 : Kd) v (Int.toNat (4 : Int)), rdE (.int .u32 : Kd) v (Int.toNat (5 : Int)), rdE (.int .u32 : Kd) v (Int.toNat (6 : Int))] w) (kke0 words l v)
theorem gq211.l1_nat {R S : Type} (g : R → Option S) (kke0 : List Int → List Int → List Int → Option R) : ∀ n i words k_ l v w, gq211.l1 (fun y0 y1 y2 => (kke0 y0 y1 y2).bind g) n i words k_ l v w = (gq211.l1 kke0 n i words k_ l v w).bind g := by
 intro n
 induction n with
 | zero => intros; rfl
 | succ n ih => intros; simp only [gq211.l1, grd_bind, cnd_bind, bnd_bind, non_bind, ih]
def gq211.l2 {R : Type} (kke2 : List Int → List Int → Option R) : Nat → Int → List Int → List Int → List Int → Option R
 | 0, _, _, _, _ => none
 | n + 1, i, words, l, v =>
  cond (decide (i < (8 : Int))) (
   grd (gIx i 8) <|
   grd (gIx i 8) <|
   grd (gIx i 8) <|
   gq211.l2 kke2 n (IntKind.wrap .i64 (i + (1 : Int))) words l (setE (.int .u32 : Kd) v (Int.toNat i) (IntKind.wrap .u32 ((rdE (.int .u32 : Kd) v (Int.toNat i)) + (rdE (.int .u32 : Kd) words (Int.toNat i)))))) (kke2 l v)
theorem gq211.l2_nat {R S : Type} (g : R → Option S) (kke2 : List Int → List Int → Option R) : ∀ n i words l v, gq211.l2 (fun y0 y1 => (kke2 y0 y1).bind g) n i words l v = (gq211.l2 kke2 n i words l v).bind g := by
 intro n
 induction n with
 | zero => intros; rfl
 | succ n ih => intros; simp only [gq211.l2, grd_bind, cnd_bind, bnd_bind, non_bind, ih]
def gq211.F {R : Type} (kk : List Int → Option R) (words : List Int) (k_ : List Int) (block : ByteArray) : Option R :=
 (gq276 block).bind fun r =>
 gq211.l1 (fun words1 l v => gq211.l2 (fun l1 v1 => kk v1) fuel (0 : Int) words1 l v) fuel (0 : Int) words k_ (List.replicate 8 (0 : Int)) words r
theorem gq211.F_nat {R S : Type} (g : R → Option S) (kk : List Int → Option R) (words k_ block) : gq211.F (fun y0 => (kk y0).bind g) words k_ block = (gq211.F kk words k_ block).bind g := by
 simp only [gq211.F, grd_bind, cnd_bind, bnd_bind, non_bind, ← gq211.l1_nat, ← gq211.l2_nat]
theorem gq211_ex : ∃ f : List Int → List Int → ByteArray → Option (List Int), f = fun (words : List Int) (k_ : List Int) (block : ByteArray) => gq211.F (fun y0 => some y0) words k_ block := ⟨_, rfl⟩
noncomputable def gq211 : List Int → List Int → ByteArray → Option (List Int) := Classical.choose gq211_ex
theorem gq211_eq (words : List Int) (k_ : List Int) (block : ByteArray) : gq211 words k_ block = gq211.F (fun y0 => some y0) words k_ block := (congrFun (congrFun (congrFun (Classical.choose_spec gq211_ex) words) k_) block)
theorem gq211_nat {S : Type} (g : (List Int) → Option S) (words : List Int) (k_ : List Int) (block : ByteArray) : gq211.F (fun y0 => g y0) words k_ block = (gq211 words k_ block).bind g := by
 rw [gq211_eq]
 exact gq211.F_nat g (fun y0 => some y0) words k_ block
def gq211.out : (List Int) → CRes := fun a => ⟨encL SV.enc [.vec 8 (.int .u32)] (a, ()), [encL SC.enc [] (), encL SC.enc [] (), encL SC.enc [] ()]⟩
def gq211.ps : List PS := [.vec, .vec, .val [none]]
def gq211.sA : List SA := [.v (.vec 8 (.int .u32)), .v (.vec 64 (.int .u32)), .v (.one (.str))]
def gq211.fi : FI := FIs gq211.sA (List Int) (fun t => gq211 t.1 t.2.1 t.2.2.1) gq211.out gq211.ps
def gq211.E : Env := ⟨tt, lkF [(276, gq276.fi), (277, gq277.fi)], 113, 0, [], [], []⟩
def gq211.sh1 : SK := ⟨[.v (.one (.aptr 0)), .v (.one (.aptr 1)), .v (.one (.aptr 2)), .v (.one (.aptr 3)), .v (.one (.aptr 4)), .v (.one (.int .i64))], [.vec 8 (.int .u32), .vec 64 (.int .u32), .vec 8 (.int .u32), .vec 8 (.int .u32), .vec 64 (.int .u32)]⟩
def gq211.sh1e0 : SK := ⟨[.v (.one (.aptr 0)), .v (.one (.aptr 1)), .v (.one (.aptr 2))], [.vec 8 (.int .u32), .vec 8 (.int .u32), .vec 8 (.int .u32)]⟩
def gq211.ko1 : Ex → List CastAt × List Nat
 | .nrm => ([], [])
 | .ret => ([], [])
 | .ext i => cond (Nat.beq i 0) ([], [3, 6, 7]) ([], [])
def gq211.G1 (n : Nat) (R : Type) (t : gq211.sh1.T) (K : Ex → Kp → Option R) : Option R := gq211.l1 (fun y0 y1 y2 => K (.ext 0) (SK.enc gq211.sh1e0 (((), (), (), ()), (y0, y1, y2, ())))) n t.1.2.2.2.2.2.1 t.2.1 t.2.2.1 t.2.2.2.1 t.2.2.2.2.1 t.2.2.2.2.2.1
def gq211.S1 : Sum := ⟨([], [3, 4, 6, 7, 8, 22]), sumF gq211.sh1 (gq211.G1 fuel), gq211.ko1⟩
theorem gq211.ok1 (hE : EOk Tryz.prog (gq211.E)) : SumOk Tryz.prog gq211.E (cB (cR (cL (cR (cR (bodyOf Tryz.f211)))))) (gq211.S1) := by
 have hh : HintOk Tryz.prog gq211.E (cB (cB (cR (cL (cR (cR (bodyOf Tryz.f211))))))) (.a) := HintOk.n1 (Q := True) (by kernel_rfl) trivial
 have h := loopS (kin := ([], [3, 4, 6, 7, 8, 22])) (kout := gq211.ko1) (sh := gq211.sh1) (F := gq211.G1) (ops_ok (hE.gv _)) (by kernel_rfl) hh (fun _ _ _ => rfl) (fun n R t K => by kernel_rfl) fuel
 exact HintOk.n1 (c := (cB (cR (cL (cR (cR (bodyOf Tryz.f211))))))) (h := .s (gq211.S1)) (P := Tryz.prog) (E := gq211.E) (by kernel_rfl) h
def gq211.sh2 : SK := ⟨[.v (.one (.aptr 0)), .v (.one (.aptr 1)), .v (.one (.aptr 2)), .v (.one (.int .i64))], [.vec 8 (.int .u32), .vec 8 (.int .u32), .vec 8 (.int .u32)]⟩
def gq211.sh2e2 : SK := ⟨[.v (.one (.aptr 0)), .v (.one (.aptr 1))], [.vec 8 (.int .u32), .vec 8 (.int .u32)]⟩
def gq211.ko2 : Ex → List CastAt × List Nat
 | .nrm => ([], [])
 | .ret => ([], [])
 | .ext i => cond (Nat.beq i 2) ([], [6, 7]) ([], [])
def gq211.G2 (n : Nat) (R : Type) (t : gq211.sh2.T) (K : Ex → Kp → Option R) : Option R := gq211.l2 (fun y0 y1 => K (.ext 2) (SK.enc gq211.sh2e2 (((), (), ()), (y0, y1, ())))) n t.1.2.2.2.1 t.2.1 t.2.2.1 t.2.2.2.1
def gq211.S2 : Sum := ⟨([], [3, 6, 7, 100]), sumF gq211.sh2 (gq211.G2 fuel), gq211.ko2⟩
theorem gq211.ok2 (hE : EOk Tryz.prog (gq211.E)) : SumOk Tryz.prog gq211.E (cB (cR (cL (cR (cR (cR (bodyOf Tryz.f211))))))) (gq211.S2) := by
 have hh : HintOk Tryz.prog gq211.E (cB (cB (cR (cL (cR (cR (cR (bodyOf Tryz.f211)))))))) (.a) := HintOk.n1 (Q := True) (by kernel_rfl) trivial
 have h := loopS (kin := ([], [3, 6, 7, 100])) (kout := gq211.ko2) (sh := gq211.sh2) (F := gq211.G2) (ops_ok (hE.gv _)) (by kernel_rfl) hh (fun _ _ _ => rfl) (fun n R t K => by kernel_rfl) fuel
 exact HintOk.n1 (c := (cB (cR (cL (cR (cR (cR (bodyOf Tryz.f211)))))))) (h := .s (gq211.S2)) (P := Tryz.prog) (E := gq211.E) (by kernel_rfl) h
theorem gq211.hok (hE : EOk Tryz.prog (gq211.E)) : HintOk Tryz.prog gq211.E (bodyOf Tryz.f211) (.n (.a) (.n (.a) (.n (.n (.a) (.b (.s (gq211.S1)))) (.n (.n (.a) (.b (.s (gq211.S2)))) (.a))))) := HintOk.n1 (Q := (True) ∧ ((True) ∧ (((True) ∧ (SumOk Tryz.prog gq211.E (cB (cR (cL (cR (cR (bodyOf Tryz.f211)))))) (gq211.S1))) ∧ (((True) ∧ (SumOk Tryz.prog gq211.E (cB (cR (cL (cR (cR (cR (bodyOf Tryz.f211))))))) (gq211.S2))) ∧ (True))))) (by kernel_rfl) ⟨trivial, ⟨trivial, ⟨⟨trivial, (gq211.ok1 hE)⟩, ⟨⟨trivial, (gq211.ok2 hE)⟩, trivial⟩⟩⟩⟩
theorem gq211.hE : EOk Tryz.prog (gq211.E) := EOk.of ttOk (⟨gq276.fok, ⟨gq277.fok, trivial⟩⟩)
theorem gq211.fok : FOk Tryz.prog 211 gq211.fi :=
 fokS (E := gq211.E) (wy := ⟨[[]], [[], [], []], []⟩) (h := (fun gs => .n (.a) (.n (.a) (.n (.n (.a) (.b (.s (gq211.S1)))) (.n (.n (.a) (.b (.s (gq211.S2)))) (.a)))))) (G := fun t g => gq211.F (fun y0 => g y0) t.1 t.2.1 t.2.2.1) (by kernel_rfl) gq211.hE Tryz.func211 (by kernel_rfl) rfl (Nat.le_refl _) (fun t => HintOk.n1 (by kernel_rfl) (gq211.hok gq211.hE)) (fun t g => gq211_nat g t.1 t.2.1 t.2.2.1) (fun t => by kernel_rfl)
def i_hash.l1 {R : Type} (kke0 : List Int → Option R) : Nat → ByteArray → Int → List Int → List Int → Option R
 | 0, _, _, _, _ => none
 | n + 1, all, at_, words, k_ =>
  cond (decide (at_ < (ByteArray.size all : Int))) (
   grd (gSl at_ (IntKind.wrap .i64 (at_ + (64 : Int))) (ByteArray.size all)) <|
   (gq211 words k_ (cut all at_ (IntKind.wrap .i64 (at_ + (64 : Int))))).bind fun r =>
   i_hash.l1 kke0 n all (IntKind.wrap .i64 (at_ + (64 : Int))) r k_) (kke0 words)
theorem i_hash.l1_nat {R S : Type} (g : R → Option S) (kke0 : List Int → Option R) : ∀ n all at_ words k_, i_hash.l1 (fun y0 => (kke0 y0).bind g) n all at_ words k_ = (i_hash.l1 kke0 n all at_ words k_).bind g := by
 intro n
 induction n with
 | zero => intros; rfl
 | succ n ih => intros; simp only [i_hash.l1, grd_bind, cnd_bind, bnd_bind, non_bind, ih]
def i_hash.l2 {R : Type} (kke2 : ByteArray → Option R) : Nat → ByteArray → List Int → Int → Option R
 | 0, _, _, _ => none
 | n + 1, out, l, i =>
  cond (decide (i < (8 : Int))) (
   grd (gIx i 8) <|
   (gq208 (IntKind.wrap .i64 (rdE (.int .u32 : Kd) l (Int.toNat i))) (4 : Int)).bind fun r =>
   grd (gCat out r) <|
   i_hash.l2 kke2 n (out ++ r) l (IntKind.wrap .i64 (i + (1 : Int)))) (kke2 out)
theorem i_hash.l2_nat {R S : Type} (g : R → Option S) (kke2 : ByteArray → Option R) : ∀ n out l i, i_hash.l2 (fun y0 => (kke2 y0).bind g) n out l i = (i_hash.l2 kke2 n out l i).bind g := by
 intro n
 induction n with
 | zero => intros; rfl
 | succ n ih => intros; simp only [i_hash.l2, grd_bind, cnd_bind, bnd_bind, non_bind, ih]
def i_hash.F {R : Type} (kk : ByteArray → Option R) (s : ByteArray) : Option R :=
 grd (gCat s (⟨#[128]⟩ : ByteArray)) <|
 grd (gNz (64 : Int)) <|
 grd (gNz (64 : Int)) <|
 (gq207 (⟨#[0]⟩ : ByteArray) (Int.tmod (IntKind.wrap .i64 ((119 : Int) - (Int.tmod (ByteArray.size s : Int) (64 : Int)))) (64 : Int))).bind fun r =>
 grd (gCat (s ++ (⟨#[128]⟩ : ByteArray)) r) <|
 (gq208 (IntKind.wrap .i64 ((8 : Int) * (ByteArray.size s : Int))) (8 : Int)).bind fun r1 =>
 grd (gCat ((s ++ (⟨#[128]⟩ : ByteArray)) ++ r) r1) <|
 (gq209).bind fun r2 =>
 (gq210).bind fun r3 =>
 i_hash.l1 (fun words => i_hash.l2 (fun out => kk out) fuel ByteArray.empty words (0 : Int)) fuel (((s ++ (⟨#[128]⟩ : ByteArray)) ++ r) ++ r1) (0 : Int) r2 r3
theorem i_hash.F_nat {R S : Type} (g : R → Option S) (kk : ByteArray → Option R) (s) : i_hash.F (fun y0 => (kk y0).bind g) s = (i_hash.F kk s).bind g := by
 simp only [i_hash.F, grd_bind, cnd_bind, bnd_bind, non_bind, ← i_hash.l1_nat, ← i_hash.l2_nat]
theorem i_hash_ex : ∃ f : ByteArray → Option ByteArray, f = fun (s : ByteArray) => i_hash.F (fun y0 => some y0) s := ⟨_, rfl⟩
noncomputable def i_hash : ByteArray → Option ByteArray := Classical.choose i_hash_ex
theorem i_hash_eq (s : ByteArray) : i_hash s = i_hash.F (fun y0 => some y0) s := (congrFun (Classical.choose_spec i_hash_ex) s)
theorem i_hash_nat {S : Type} (g : ByteArray → Option S) (s : ByteArray) : i_hash.F (fun y0 => g y0) s = (i_hash s).bind g := by
 rw [i_hash_eq]
 exact i_hash.F_nat g (fun y0 => some y0) s
def i_hash.out : ByteArray → CRes := fun a => ⟨encL SV.enc [.one (.str)] (a, ()), [encL SC.enc [] ()]⟩
def i_hash.ps : List PS := [.val [none]]
def i_hash.sA : List SA := [.v (.one (.str))]
def i_hash.fi : FI := FIs i_hash.sA (ByteArray) (fun t => i_hash t.1) i_hash.out i_hash.ps
def i_hash.E : Env := ⟨tt, lkF [(207, gq207.fi), (208, gq208.fi), (209, gq209.fi), (210, gq210.fi), (211, gq211.fi)], 51, 0, [], [], []⟩
def i_hash.sh1 : SK := ⟨[.v (.one (.str)), .v (.one (.aptr 0)), .v (.one (.aptr 1)), .v (.one (.int .i64))], [.vec 8 (.int .u32), .vec 64 (.int .u32)]⟩
def i_hash.sh1e0 : SK := ⟨[.v (.one (.aptr 0))], [.vec 8 (.int .u32)]⟩
def i_hash.ko1 : Ex → List CastAt × List Nat
 | .nrm => ([], [])
 | .ret => ([], [])
 | .ext i => cond (Nat.beq i 0) ([], [4]) ([], [])
def i_hash.G1 (n : Nat) (R : Type) (t : i_hash.sh1.T) (K : Ex → Kp → Option R) : Option R := i_hash.l1 (fun y0 => K (.ext 0) (SK.enc i_hash.sh1e0 (((), ()), (y0, ())))) n t.1.1 t.1.2.2.2.1 t.2.1 t.2.2.1
def i_hash.S1 : Sum := ⟨([], [3, 4, 5, 6]), sumF i_hash.sh1 (i_hash.G1 fuel), i_hash.ko1⟩
theorem i_hash.ok1 (hE : EOk Tryz.prog (i_hash.E)) : SumOk Tryz.prog i_hash.E (cB (cR (cL (cR (cR (cR (bodyOf Tryz.f125))))))) (i_hash.S1) := by
 have hh : HintOk Tryz.prog i_hash.E (cB (cB (cR (cL (cR (cR (cR (bodyOf Tryz.f125)))))))) (.a) := HintOk.n1 (Q := True) (by kernel_rfl) trivial
 have h := loopS (kin := ([], [3, 4, 5, 6])) (kout := i_hash.ko1) (sh := i_hash.sh1) (F := i_hash.G1) (ops_ok (hE.gv _)) (by kernel_rfl) hh (fun _ _ _ => rfl) (fun n R t K => by kernel_rfl) fuel
 exact HintOk.n1 (c := (cB (cR (cL (cR (cR (cR (bodyOf Tryz.f125)))))))) (h := .s (i_hash.S1)) (P := Tryz.prog) (E := i_hash.E) (by kernel_rfl) h
def i_hash.sh2 : SK := ⟨[.v (.one (.str)), .v (.vec 8 (.int .u32)), .v (.one (.int .i64))], []⟩
def i_hash.sh2e2 : SK := ⟨[.v (.one (.str))], []⟩
def i_hash.ko2 : Ex → List CastAt × List Nat
 | .nrm => ([], [])
 | .ret => ([], [])
 | .ext i => cond (Nat.beq i 2) ([], [7]) ([], [])
def i_hash.G2 (n : Nat) (R : Type) (t : i_hash.sh2.T) (K : Ex → Kp → Option R) : Option R := i_hash.l2 (fun y0 => K (.ext 2) (SK.enc i_hash.sh2e2 ((y0, ()), ()))) n t.1.1 t.1.2.1 t.1.2.2.1
def i_hash.S2 : Sum := ⟨([], [7, 40, 41]), sumF i_hash.sh2 (i_hash.G2 fuel), i_hash.ko2⟩
theorem i_hash.ok2 (hE : EOk Tryz.prog (i_hash.E)) : SumOk Tryz.prog i_hash.E (cB (cR (cL (cR (cR (cR (cR (cR (bodyOf Tryz.f125))))))))) (i_hash.S2) := by
 have hh : HintOk Tryz.prog i_hash.E (cB (cB (cR (cL (cR (cR (cR (cR (cR (bodyOf Tryz.f125)))))))))) (.a) := HintOk.n1 (Q := True) (by kernel_rfl) trivial
 have h := loopS (kin := ([], [7, 40, 41])) (kout := i_hash.ko2) (sh := i_hash.sh2) (F := i_hash.G2) (ops_ok (hE.gv _)) (by kernel_rfl) hh (fun _ _ _ => rfl) (fun n R t K => by kernel_rfl) fuel
 exact HintOk.n1 (c := (cB (cR (cL (cR (cR (cR (cR (cR (bodyOf Tryz.f125)))))))))) (h := .s (i_hash.S2)) (P := Tryz.prog) (E := i_hash.E) (by kernel_rfl) h
theorem i_hash.hok (hE : EOk Tryz.prog (i_hash.E)) : HintOk Tryz.prog i_hash.E (bodyOf Tryz.f125) (.n (.a) (.n (.a) (.n (.a) (.n (.n (.a) (.b (.s (i_hash.S1)))) (.n (.a) (.n (.n (.a) (.b (.s (i_hash.S2)))) (.a))))))) := HintOk.n1 (Q := (True) ∧ ((True) ∧ ((True) ∧ (((True) ∧ (SumOk Tryz.prog i_hash.E (cB (cR (cL (cR (cR (cR (bodyOf Tryz.f125))))))) (i_hash.S1))) ∧ ((True) ∧ (((True) ∧ (SumOk Tryz.prog i_hash.E (cB (cR (cL (cR (cR (cR (cR (cR (bodyOf Tryz.f125))))))))) (i_hash.S2))) ∧ (True))))))) (by kernel_rfl) ⟨trivial, ⟨trivial, ⟨trivial, ⟨⟨trivial, (i_hash.ok1 hE)⟩, ⟨trivial, ⟨⟨trivial, (i_hash.ok2 hE)⟩, trivial⟩⟩⟩⟩⟩⟩
theorem i_hash.hE : EOk Tryz.prog (i_hash.E) := EOk.of ttOk (⟨gq207.fok, ⟨gq208.fok, ⟨gq209.fok, ⟨gq210.fok, ⟨gq211.fok, trivial⟩⟩⟩⟩⟩)
theorem i_hash.fok : FOk Tryz.prog 125 i_hash.fi :=
 fokS (E := i_hash.E) (wy := ⟨[[none]], [[]], []⟩) (h := (fun gs => .n (.a) (.n (.a) (.n (.a) (.n (.n (.a) (.b (.s (i_hash.S1)))) (.n (.a) (.n (.n (.a) (.b (.s (i_hash.S2)))) (.a)))))))) (G := fun t g => i_hash.F (fun y0 => g y0) t.1) (by kernel_rfl) i_hash.hE Tryz.func125 (by kernel_rfl) rfl (Nat.le_refl _) (fun t => HintOk.n1 (by kernel_rfl) (i_hash.hok i_hash.hE)) (fun t g => i_hash_nat g t.1) (fun t => by kernel_rfl)
def gq179.l1 {R : Type} (kke0 : Int → Option R) : Nat → Int → Int → Option R
 | 0, _, _ => none
 | n + 1, n_, k_ =>
  cond (decide ((IntKind.wrap .i64 ((2 : Int) * k_)) < n_)) (gq179.l1 kke0 n n_ (IntKind.wrap .i64 (k_ * (2 : Int)))) (kke0 k_)
theorem gq179.l1_nat {R S : Type} (g : R → Option S) (kke0 : Int → Option R) : ∀ n n_ k_, gq179.l1 (fun y0 => (kke0 y0).bind g) n n_ k_ = (gq179.l1 kke0 n n_ k_).bind g := by
 intro n
 induction n with
 | zero => intros; rfl
 | succ n ih => intros; simp only [gq179.l1, grd_bind, cnd_bind, bnd_bind, non_bind, ih]
def gq179.F {R : Type} (kk : Int → Option R) (n_ : Int) : Option R :=
 gq179.l1 (fun k_ => kk k_) fuel n_ (1 : Int)
theorem gq179.F_nat {R S : Type} (g : R → Option S) (kk : Int → Option R) (n_) : gq179.F (fun y0 => (kk y0).bind g) n_ = (gq179.F kk n_).bind g := by
 simp only [gq179.F, grd_bind, cnd_bind, bnd_bind, non_bind, ← gq179.l1_nat]
def gq179 (n_ : Int) : Option Int := gq179.F (fun y0 => some y0) n_
def gq179.out : Int → CRes := fun a => ⟨encL SV.enc [.one (.int .i64)] (a, ()), [encL SC.enc [] ()]⟩
def gq179.ps : List PS := [.val [none]]
def gq179.sA : List SA := [.v (.one (.int .i64))]
def gq179.fi : FI := FIs gq179.sA (Int) (fun t => gq179 t.1) gq179.out gq179.ps
def gq179.E : Env := ⟨tt, lkF [], 11, 0, [], [], []⟩
def gq179.sh1 : SK := ⟨[.v (.one (.int .i64)), .v (.one (.int .i64))], []⟩
def gq179.sh1e0 : SK := ⟨[.v (.one (.int .i64))], []⟩
def gq179.ko1 : Ex → List CastAt × List Nat
 | .nrm => ([], [])
 | .ret => ([], [])
 | .ext i => cond (Nat.beq i 0) ([], [3]) ([], [])
def gq179.G1 (n : Nat) (R : Type) (t : gq179.sh1.T) (K : Ex → Kp → Option R) : Option R := gq179.l1 (fun y0 => K (.ext 0) (SK.enc gq179.sh1e0 ((y0, ()), ()))) n t.1.1 t.1.2.1
def gq179.S1 : Sum := ⟨([], [0, 3]), sumF gq179.sh1 (gq179.G1 fuel), gq179.ko1⟩
theorem gq179.ok1 (hE : EOk Tryz.prog (gq179.E)) : SumOk Tryz.prog gq179.E (cB (cL (cR (cR (bodyOf Tryz.f179))))) (gq179.S1) := by
 have hh : HintOk Tryz.prog gq179.E (cB (cB (cL (cR (cR (bodyOf Tryz.f179)))))) (.a) := HintOk.n1 (Q := True) (by kernel_rfl) trivial
 have h := loopS (kin := ([], [0, 3])) (kout := gq179.ko1) (sh := gq179.sh1) (F := gq179.G1) (ops_ok (hE.gv _)) (by kernel_rfl) hh (fun _ _ _ => rfl) (fun n R t K => by kernel_rfl) fuel
 exact HintOk.n1 (c := (cB (cL (cR (cR (bodyOf Tryz.f179)))))) (h := .s (gq179.S1)) (P := Tryz.prog) (E := gq179.E) (by kernel_rfl) h
theorem gq179.hok (hE : EOk Tryz.prog (gq179.E)) : HintOk Tryz.prog gq179.E (bodyOf Tryz.f179) (.n (.a) (.n (.a) (.n (.b (.s (gq179.S1))) (.a)))) := HintOk.n1 (Q := (True) ∧ ((True) ∧ ((SumOk Tryz.prog gq179.E (cB (cL (cR (cR (bodyOf Tryz.f179))))) (gq179.S1)) ∧ (True)))) (by kernel_rfl) ⟨trivial, ⟨trivial, ⟨(gq179.ok1 hE), trivial⟩⟩⟩
theorem gq179.hE : EOk Tryz.prog (gq179.E) := EOk.of ttOk (trivial)
theorem gq179.fok : FOk Tryz.prog 179 gq179.fi :=
 fokS (E := gq179.E) (wy := ⟨[[none]], [[]], []⟩) (h := (fun gs => .n (.a) (.n (.a) (.n (.b (.s (gq179.S1))) (.a))))) (G := fun t g => gq179.F (fun y0 => g y0) t.1) (by kernel_rfl) gq179.hE Tryz.func179 (by kernel_rfl) rfl (Nat.le_refl _) (fun t => HintOk.n1 (by kernel_rfl) (gq179.hok gq179.hE)) (fun t g => gq179.F_nat g (fun y0 => some y0) _) (fun t => by kernel_rfl)
def gq180.F {R : Type} (kk : ByteArray → Option R) (left : ByteArray) (right : ByteArray) : Option R :=
 grd (gCat (⟨#[1]⟩ : ByteArray) left) <|
 grd (gCat ((⟨#[1]⟩ : ByteArray) ++ left) right) <|
 (i_hash (((⟨#[1]⟩ : ByteArray) ++ left) ++ right)).bind fun r =>
 kk r
theorem gq180.F_nat {R S : Type} (g : R → Option S) (kk : ByteArray → Option R) (left right) : gq180.F (fun y0 => (kk y0).bind g) left right = (gq180.F kk left right).bind g := by
 simp only [gq180.F, grd_bind, cnd_bind, bnd_bind, non_bind]
def gq180 (left : ByteArray) (right : ByteArray) : Option ByteArray := gq180.F (fun y0 => some y0) left right
def gq180.out : ByteArray → CRes := fun a => ⟨encL SV.enc [.one (.str)] (a, ()), [encL SC.enc [] (), encL SC.enc [] ()]⟩
def gq180.ps : List PS := [.val [none], .val [none]]
def gq180.sA : List SA := [.v (.one (.str)), .v (.one (.str))]
def gq180.fi : FI := FIs gq180.sA (ByteArray) (fun t => gq180 t.1 t.2.1) gq180.out gq180.ps
def gq180.E : Env := ⟨tt, lkF [(125, i_hash.fi)], 10, 0, [], [], []⟩
theorem gq180.hok (hE : EOk Tryz.prog (gq180.E)) : HintOk Tryz.prog gq180.E (bodyOf Tryz.f180) (.a) := HintOk.n1 (Q := True) (by kernel_rfl) trivial
theorem gq180.hE : EOk Tryz.prog (gq180.E) := EOk.of ttOk (⟨i_hash.fok, trivial⟩)
theorem gq180.fok : FOk Tryz.prog 180 gq180.fi :=
 fokS (E := gq180.E) (wy := ⟨[[none]], [[], []], []⟩) (h := (fun gs => .a)) (G := fun t g => gq180.F (fun y0 => g y0) t.1 t.2.1) (by kernel_rfl) gq180.hE Tryz.func180 (by kernel_rfl) rfl (Nat.le_refl _) (fun t => HintOk.n1 (by kernel_rfl) (gq180.hok gq180.hE)) (fun t g => gq180.F_nat g (fun y0 => some y0) _ _) (fun t => by kernel_rfl)
def gq94.F {R : Type} (rc : List ByteArray → Option ByteArray) (kk : ByteArray → Option R) (leaves : List ByteArray) : Option R :=
 cond ((List.length leaves : Int) == (0 : Int)) (
  (i_hash ByteArray.empty).bind fun r =>
  kk r) (
  cond ((List.length leaves : Int) == (1 : Int)) (
   grd (gIx (0 : Int) (List.length leaves)) <|
   kk (rdE (.str : Kd) leaves (Int.toNat (0 : Int)))) (
   (gq179 (List.length leaves : Int)).bind fun r1 =>
   grd (gSl (0 : Int) r1 (List.length leaves)) <|
   (rc (sub leaves (0 : Int) r1)).bind fun r2 =>
   grd (gSl r1 (List.length leaves : Int) (List.length leaves)) <|
   (rc (sub leaves r1 (List.length leaves : Int))).bind fun r3 =>
   (gq180 r2 r3).bind fun r4 =>
   kk r4))
theorem gq94.F_nat {R S : Type} (g : R → Option S) (rc : List ByteArray → Option ByteArray) (kk : ByteArray → Option R) (leaves) : gq94.F rc (fun y0 => (kk y0).bind g) leaves = (gq94.F rc kk leaves).bind g := by
 simp only [gq94.F, grd_bind, cnd_bind, bnd_bind, non_bind]
def gq94 : Nat → List ByteArray → Option ByteArray
 | 0, _ => none
 | fu + 1, leaves => gq94.F (gq94 fu) (fun y0 => some y0) leaves
theorem gq94_nat {S : Type} (fu : Nat) (g : ByteArray → Option S) (leaves : List ByteArray) : gq94.F (gq94 fu) (fun y0 => g y0) leaves = (gq94 (fu + 1) leaves).bind g := gq94.F_nat g (gq94 fu) (fun y0 => some y0) leaves
def gq94.out : ByteArray → CRes := fun a => ⟨encL SV.enc [.one (.str)] (a, ()), [encL SC.enc [] ()]⟩
def gq94.ps : List PS := [.val [some (.str, false)]]
def gq94.sA : List SA := [.v (.one (.slv [] .str))]
def gq94.fi (fu : Nat) : FI := FIs gq94.sA (ByteArray) (fun t => gq94 fu t.1) gq94.out gq94.ps
def gq94.E (fu : Nat) : Env := ⟨tt, lkF [(94, gq94.fi fu), (125, i_hash.fi), (179, gq179.fi), (180, gq180.fi)], 26, 0, [], [], []⟩
theorem gq94.hok (fu : Nat) (hE : EOk Tryz.prog (gq94.E fu)) : HintOk Tryz.prog (gq94.E fu) (bodyOf Tryz.f94) (.a) := HintOk.n1 (Q := True) (by kernel_rfl) trivial
theorem gq94.fok0 : FOk Tryz.prog 94 (gq94.fi 0) := FOk.zero ⟨_, _, Tryz.func94, by kernel_rfl, rfl⟩ (fun _ => rfl)
theorem gq94.fok1 (fu : Nat) (ih : FOk Tryz.prog 94 (gq94.fi fu)) : FOk Tryz.prog 94 (gq94.fi (fu + 1)) := by
 have hE : EOk Tryz.prog (gq94.E fu) := EOk.of ttOk (⟨ih, ⟨i_hash.fok, ⟨gq179.fok, ⟨gq180.fok, trivial⟩⟩⟩⟩)
 exact fokS (E := gq94.E fu) (wy := ⟨[[none]], [[]], []⟩) (h := (fun gs => .a)) (G := fun t g => gq94.F (gq94 fu) (fun y0 => g y0) t.1) (by kernel_rfl) hE Tryz.func94 (by kernel_rfl) rfl (Nat.le_refl _) (fun t => HintOk.n1 (by kernel_rfl) (gq94.hok fu hE)) (fun t g => gq94_nat fu g t.1) (fun t => by kernel_rfl)
theorem gq94.fok (fu : Nat) : FOk Tryz.prog 94 (gq94.fi fu) := Nat.rec gq94.fok0 gq94.fok1 fu
def gq93.j1 {R : Type} (rc : List ByteArray → Int → Bool → Option (List ByteArray)) (kkn : List ByteArray → Int → Bool → Int → Bool → Option R) (leaves : List ByteArray) (m : Int) (known : Bool) (n_ : Int) : Option R :=
 cond (m == n_) (kkn leaves m known n_ known) (kkn leaves m known n_ false)
theorem gq93.j1_nat {R S : Type} (g : R → Option S) (rc : List ByteArray → Int → Bool → Option (List ByteArray)) (kkn : List ByteArray → Int → Bool → Int → Bool → Option R) (leaves m known n_) : gq93.j1 rc (fun y0 y1 y2 y3 y4 => (kkn y0 y1 y2 y3 y4).bind g) leaves m known n_ = (gq93.j1 rc kkn leaves m known n_).bind g := by
 simp only [gq93.j1, grd_bind, cnd_bind, bnd_bind, non_bind]
def gq93.F {R : Type} (rc : List ByteArray → Int → Bool → Option (List ByteArray)) (kk : List ByteArray → Option R) (leaves : List ByteArray) (m : Int) (known : Bool) : Option R :=
 gq93.j1 rc (fun leaves1 m1 known1 n_ b =>
  cond (b) (kk []) (
   cond (m1 == n_) (
    (gq94 fuel leaves1).bind fun r =>
    kk [r]) (
    (gq179 n_).bind fun r1 =>
    cond (decide (m1 ≤ r1)) (
     grd (gSl (0 : Int) r1 (List.length leaves1)) <|
     (rc (sub leaves1 (0 : Int) r1) m1 known1).bind fun r2 =>
     grd (gSl r1 (List.length leaves1 : Int) (List.length leaves1)) <|
     (gq94 fuel (sub leaves1 r1 (List.length leaves1 : Int))).bind fun r3 =>
     grd (gRm (((List.length r2) + (List.length [r3])) * 16)) <|
     kk (r2 ++ [r3])) (
     grd (gSl r1 (List.length leaves1 : Int) (List.length leaves1)) <|
     (rc (sub leaves1 r1 (List.length leaves1 : Int)) (IntKind.wrap .i64 (m1 - r1)) false).bind fun r4 =>
     grd (gSl (0 : Int) r1 (List.length leaves1)) <|
     (gq94 fuel (sub leaves1 (0 : Int) r1)).bind fun r5 =>
     grd (gRm (((List.length r4) + (List.length [r5])) * 16)) <|
     kk (r4 ++ [r5]))))) leaves m known (List.length leaves : Int)
theorem gq93.F_nat {R S : Type} (g : R → Option S) (rc : List ByteArray → Int → Bool → Option (List ByteArray)) (kk : List ByteArray → Option R) (leaves m known) : gq93.F rc (fun y0 => (kk y0).bind g) leaves m known = (gq93.F rc kk leaves m known).bind g := by
 simp only [gq93.F, grd_bind, cnd_bind, bnd_bind, non_bind, ← gq93.j1_nat]
def gq93 : Nat → List ByteArray → Int → Bool → Option (List ByteArray)
 | 0, _, _, _ => none
 | fu + 1, leaves, m, known => gq93.F (gq93 fu) (fun y0 => some y0) leaves m known
theorem gq93_nat {S : Type} (fu : Nat) (g : (List ByteArray) → Option S) (leaves : List ByteArray) (m : Int) (known : Bool) : gq93.F (gq93 fu) (fun y0 => g y0) leaves m known = (gq93 (fu + 1) leaves m known).bind g := gq93.F_nat g (gq93 fu) (fun y0 => some y0) leaves m known
def gq93.out : (List ByteArray) → CRes := fun a => ⟨encL SV.enc [.one (.own [] .str true)] (a, ()), [encL SC.enc [] (), encL SC.enc [] (), encL SC.enc [] ()]⟩
def gq93.ps : List PS := [.val [some (.str, false)], .val [none], .val [none]]
def gq93.sA : List SA := [.v (.one (.slv [] .str)), .v (.one (.int .i64)), .v (.one (.bool))]
def gq93.fi (fu : Nat) : FI := FIs gq93.sA (List ByteArray) (fun t => gq93 fu t.1 t.2.1 t.2.2.1) gq93.out gq93.ps
def gq93.E (fu : Nat) : Env := ⟨tt, lkF [(93, gq93.fi fu), (94, gq94.fi fuel), (179, gq179.fi)], 55, 0, [], [], []⟩
def gq93.sh1 : SK := ⟨[.v (.one (.slv [1] .str)), .v (.one (.int .i64)), .v (.one (.bool)), .v (.one (.int .i64))], []⟩
def gq93.sh1n : SK := ⟨[.v (.one (.slv [1] .str)), .v (.one (.int .i64)), .v (.one (.bool)), .v (.one (.int .i64)), .v (.one (.bool))], []⟩
def gq93.ko1 : Ex → List CastAt × List Nat
 | .nrm => ([], [0, 1, 2, 7, 11])
 | .ret => ([], [])
 | .ext i => ([], [])
def gq93.G1 (fu : Nat) (R : Type) (t : gq93.sh1.T) (K : Ex → Kp → Option R) : Option R := gq93.j1 (gq93 fu) (fun y0 y1 y2 y3 y4 => K .nrm (SK.enc gq93.sh1n ((y0, y1, y2, y3, y4, ()), ()))) t.1.1 t.1.2.1 t.1.2.2.1 t.1.2.2.2.1
def gq93.S1 (fu : Nat) : Sum := ⟨([], [0, 1, 2, 7]), sumF gq93.sh1 (gq93.G1 fu), gq93.ko1⟩
theorem gq93.ok1 (fu : Nat) (hE : EOk Tryz.prog (gq93.E fu)) : SumOk Tryz.prog (gq93.E fu) (cL (cB (cL (cR (cR (bodyOf Tryz.f93)))))) (gq93.S1 fu) := by
 have hh : HintOk Tryz.prog (gq93.E fu) (cL (cB (cL (cR (cR (bodyOf Tryz.f93)))))) (.a) := HintOk.n1 (Q := True) (by kernel_rfl) trivial
 exact sumS (kin := ([], [0, 1, 2, 7])) (kout := gq93.ko1) (sh := gq93.sh1) (F := gq93.G1 fu) (ops_ok (hE.gv _)) (by kernel_rfl) hh (fun R t K => by kernel_rfl)
theorem gq93.hok (fu : Nat) (hE : EOk Tryz.prog (gq93.E fu)) : HintOk Tryz.prog (gq93.E fu) (bodyOf Tryz.f93) (.n (.a) (.n (.a) (.n (.b (.n (.s (gq93.S1 fu)) (.a))) (.a)))) := HintOk.n1 (Q := (True) ∧ ((True) ∧ (((SumOk Tryz.prog (gq93.E fu) (cL (cB (cL (cR (cR (bodyOf Tryz.f93)))))) (gq93.S1 fu)) ∧ (True)) ∧ (True)))) (by kernel_rfl) ⟨trivial, ⟨trivial, ⟨⟨(gq93.ok1 fu hE), trivial⟩, trivial⟩⟩⟩
theorem gq93.fok0 : FOk Tryz.prog 93 (gq93.fi 0) := FOk.zero ⟨_, _, Tryz.func93, by kernel_rfl, rfl⟩ (fun _ => rfl)
theorem gq93.fok1 (fu : Nat) (ih : FOk Tryz.prog 93 (gq93.fi fu)) : FOk Tryz.prog 93 (gq93.fi (fu + 1)) := by
 have hE : EOk Tryz.prog (gq93.E fu) := EOk.of ttOk (⟨ih, ⟨gq94.fok fuel, ⟨gq179.fok, trivial⟩⟩⟩)
 exact fokS (E := gq93.E fu) (wy := ⟨[[some (.str, true)]], [[], [], []], []⟩) (h := (fun gs => .n (.a) (.n (.a) (.n (.b (.n (.s (gq93.S1 fu)) (.a))) (.a))))) (G := fun t g => gq93.F (gq93 fu) (fun y0 => g y0) t.1 t.2.1 t.2.2.1) (by kernel_rfl) hE Tryz.func93 (by kernel_rfl) rfl (Nat.le_refl _) (fun t => HintOk.n1 (by kernel_rfl) (gq93.hok fu hE)) (fun t g => gq93_nat fu g t.1 t.2.1 t.2.2.1) (fun t => by kernel_rfl)
theorem gq93.fok (fu : Nat) : FOk Tryz.prog 93 (gq93.fi fu) := Nat.rec gq93.fok0 gq93.fok1 fu
def gq28.F {R : Type} (kk : List ByteArray → Int → Option R) (leaves : List ByteArray) (old : Int) : Option R :=
 (gq91 leaves).bind fun r =>
 cond (r != (0 : Int)) (kk [] r) (
  (gq92 old (1 : Int) (List.length leaves : Int)).bind fun r1 =>
  cond (!r1) (kk [] (4 : Int)) (
   (gq93 fuel leaves old true).bind fun r2 =>
   kk r2 (0 : Int)))
theorem gq28.F_nat {R S : Type} (g : R → Option S) (kk : List ByteArray → Int → Option R) (leaves old) : gq28.F (fun y0 y1 => (kk y0 y1).bind g) leaves old = (gq28.F kk leaves old).bind g := by
 simp only [gq28.F, grd_bind, cnd_bind, bnd_bind, non_bind]
def gq28 (leaves : List ByteArray) (old : Int) : Option (List ByteArray × Int) := gq28.F (fun y0 y1 => some (y0, y1)) leaves old
def gq28.out : (List ByteArray × Int) → CRes := fun a => ⟨encL SV.enc [.one (.own [] .str true), .one (.int .i64)] (a.1, a.2, ()), [encL SC.enc [] (), encL SC.enc [] ()]⟩
def gq28.ps : List PS := [.val [some (.str, false)], .val [none]]
def gq28.sA : List SA := [.v (.one (.slv [] .str)), .v (.one (.int .i64))]
def gq28.fi : FI := FIs gq28.sA (List ByteArray × Int) (fun t => gq28 t.1 t.2.1) gq28.out gq28.ps
def gq28.E : Env := ⟨tt, lkF [(91, gq91.fi), (92, gq92.fi), (93, gq93.fi fuel)], 20, 0, [], [], []⟩
theorem gq28.hok (hE : EOk Tryz.prog (gq28.E)) : HintOk Tryz.prog gq28.E (bodyOf Tryz.f28) (.a) := HintOk.n1 (Q := True) (by kernel_rfl) trivial
theorem gq28.hE : EOk Tryz.prog (gq28.E) := EOk.of ttOk (⟨gq91.fok, ⟨gq92.fok, ⟨gq93.fok fuel, trivial⟩⟩⟩)
theorem gq28.fok : FOk Tryz.prog 28 gq28.fi :=
 fokS (E := gq28.E) (wy := ⟨[[some (.str, true)], [none]], [[], []], []⟩) (h := (fun gs => .a)) (G := fun t g => gq28.F (fun y0 y1 => g (y0, y1)) t.1 t.2.1) (by kernel_rfl) gq28.hE Tryz.func28 (by kernel_rfl) rfl (Nat.le_refl _) (fun t => HintOk.n1 (by kernel_rfl) (gq28.hok gq28.hE)) (fun t g => gq28.F_nat g (fun y0 y1 => some (y0, y1)) _ _) (fun t => by kernel_rfl)
def gq29.F {R : Type} (kk : ByteArray → Int → Option R) (leaves : List ByteArray) : Option R :=
 (gq91 leaves).bind fun r =>
 cond (r != (0 : Int)) (kk ByteArray.empty r) (
  (gq94 fuel leaves).bind fun r1 =>
  kk r1 (0 : Int))
theorem gq29.F_nat {R S : Type} (g : R → Option S) (kk : ByteArray → Int → Option R) (leaves) : gq29.F (fun y0 y1 => (kk y0 y1).bind g) leaves = (gq29.F kk leaves).bind g := by
 simp only [gq29.F, grd_bind, cnd_bind, bnd_bind, non_bind]
def gq29 (leaves : List ByteArray) : Option (ByteArray × Int) := gq29.F (fun y0 y1 => some (y0, y1)) leaves
def gq29.out : (ByteArray × Int) → CRes := fun a => ⟨encL SV.enc [.one (.str), .one (.int .i64)] (a.1, a.2, ()), [encL SC.enc [] ()]⟩
def gq29.ps : List PS := [.val [some (.str, false)]]
def gq29.sA : List SA := [.v (.one (.slv [] .str))]
def gq29.fi : FI := FIs gq29.sA (ByteArray × Int) (fun t => gq29 t.1) gq29.out gq29.ps
def gq29.E : Env := ⟨tt, lkF [(91, gq91.fi), (94, gq94.fi fuel)], 12, 0, [], [], []⟩
theorem gq29.hok (hE : EOk Tryz.prog (gq29.E)) : HintOk Tryz.prog gq29.E (bodyOf Tryz.f29) (.a) := HintOk.n1 (Q := True) (by kernel_rfl) trivial
theorem gq29.hE : EOk Tryz.prog (gq29.E) := EOk.of ttOk (⟨gq91.fok, ⟨gq94.fok fuel, trivial⟩⟩)
theorem gq29.fok : FOk Tryz.prog 29 gq29.fi :=
 fokS (E := gq29.E) (wy := ⟨[[none], [none]], [[]], []⟩) (h := (fun gs => .a)) (G := fun t g => gq29.F (fun y0 y1 => g (y0, y1)) t.1) (by kernel_rfl) gq29.hE Tryz.func29 (by kernel_rfl) rfl (Nat.le_refl _) (fun t => HintOk.n1 (by kernel_rfl) (gq29.hok gq29.hE)) (fun t g => gq29.F_nat g (fun y0 y1 => some (y0, y1)) _) (fun t => by kernel_rfl)
theorem itoa_ex : ∃ f : Int → ByteArray, f = (fun n => ⟨(Lib.decDigits n.toNat).toArray⟩) := ⟨_, rfl⟩
noncomputable def itoaS : Int → ByteArray := Classical.choose itoa_ex
theorem itoaS_eq (n : Int) : itoaS n = ⟨(Lib.decDigits n.toNat).toArray⟩ := congrFun (Classical.choose_spec itoa_ex) n
noncomputable def gq162.F {R : Type} (kk : ByteArray → Option R) (n : Int) : Option R := grd (decide (0 ≤ n) && decide (n < 100)) <| kk (itoaS n)
theorem gq162_ex : ∃ f : Int → Option ByteArray, f = fun n => gq162.F (fun y0 => some y0) n := ⟨_, rfl⟩
noncomputable def gq162 : Int → Option ByteArray := Classical.choose gq162_ex
theorem gq162_eq (n : Int) : gq162 n = gq162.F (fun y0 => some y0) n := congrFun (Classical.choose_spec gq162_ex) n
def gq162.out : (ByteArray) → CRes := fun a => ⟨encL SV.enc [.one (.str)] (a, ()), [encL SC.enc [] ()]⟩
def gq162.ps : List PS := [.val [none]]
def gq162.sA : List SA := [.v (.one (.int .i64))]
noncomputable def gq162.fi : FI := FIs gq162.sA (ByteArray) (fun t => gq162 t.1) gq162.out gq162.ps
theorem gq162.fok : FOk Tryz.prog 162 gq162.fi := by
 refine fok_ext ⟨_, _, Tryz.func162, by kernel_rfl, rfl⟩ (by kernel_rfl) (fun a => [.str a]) (fun a => by kernel_rfl) (fun a => by kernel_rfl) (fun t a h w => ?_)
 obtain ⟨n, u⟩ := t
 have h' : grd (decide (0 ≤ n) && decide (n < 100)) (some (itoaS n)) = some a := (gq162_eq n).symm.trans h
 cases hg : decide (0 ≤ n) && decide (n < 100) with
 | false => rw [hg] at h'; cases h'
 | true =>
  rw [hg] at h'
  obtain rfl := Option.some.inj h'
  rw [Bool.and_eq_true, decide_eq_true_iff, decide_eq_true_iff] at hg
  rw [itoaS_eq]
  have := Any.strconv_Itoa_small Tryz.lays171 n.toNat ((Int.toNat_lt hg.1).2 hg.2) w
  rw [Int.toNat_of_nonneg hg.1] at this
  refine this.mono ?_
  rintro e w' ⟨rfl, rfl⟩
  exact ⟨rfl, RowKit.Below.refl _ _⟩
def gq163.l1 {R : Type} (kke0 : List Int → Option R) : Nat → ByteArray → Int → Int → List Int → Option R
 | 0, _, _, _, _ => none
 | n + 1, s, i, i1, out =>
  cond (decide (i1 < i)) (
   grd (gIx i1 (ByteArray.size s)) <|
   grd (gSh (4 : Int)) <|
   grd (gIx (iShr .u8 (byteAt s i1) (4 : Int)) (ByteArray.size (⟨#[48, 49, 50, 51, 52, 53, 54, 55, 56, 57, 97, 98, 99, 100, 101, 102]⟩ : ByteArray))) <|
   grd (gIx i1 (ByteArray.size s)) <|
   grd (gIx (iAnd .u8 (byteAt s i1) (15 : Int)) (ByteArray.size (⟨#[48, 49, 50, 51, 52, 53, 54, 55, 56, 57, 97, 98, 99, 100, 101, 102]⟩ : ByteArray))) <|
   grd (gRm (((List.length out) + (List.length ([byteAt (⟨#[48, 49, 50, 51, 52, 53, 54, 55, 56, 57, 97, 98, 99, 100, 101, 102]⟩ : ByteArray) (iShr .u8 (byteAt s i1) (4 : Int)), byteAt (⟨#[48, 49, 50, 51, 52, 53, 54, 55, 56, 57, 97, 98, 99, 100, 101, 102]⟩ : ByteArray) (iAnd .u8 (byteAt s i1) (15 : Int))]))) * 1)) <|
   gq163.l1 kke0 n s i (IntKind.wrap .i64 (i1 + (1 : Int))) (out ++ ([byteAt (⟨#[48, 49, 50, 51, 52, 53, 54, 55, 56, 57, 97, 98, 99, 100, 101, 102]⟩ : ByteArray) (iShr .u8 (byteAt s i1) (4 : Int)), byteAt (⟨#[48, 49, 50, 51, 52, 53, 54, 55, 56, 57, 97, 98, 99, 100, 101, 102]⟩ : ByteArray) (iAnd .u8 (byteAt s i1) (15 : Int))]))) (kke0 out)
theorem gq163.l1_nat {R S : Type} (g : R → Option S) (kke0 : List Int → Option R) : ∀ n s i i1 out, gq163.l1 (fun y0 => (kke0 y0).bind g) n s i i1 out = (gq163.l1 kke0 n s i i1 out).bind g := by
 intro n
 induction n with
 | zero => intros; rfl
 | succ n ih => intros; simp only [gq163.l1, grd_bind, cnd_bind, bnd_bind, non_bind, ih]
def gq163.F {R : Type} (kk : ByteArray → Option R) (s : ByteArray) : Option R :=
 gq163.l1 (fun out => kk (strL out)) fuel s (ByteArray.size s : Int) (0 : Int) ([] : List Int)
theorem gq163.F_nat {R S : Type} (g : R → Option S) (kk : ByteArray → Option R) (s) : gq163.F (fun y0 => (kk y0).bind g) s = (gq163.F kk s).bind g := by
 simp only [gq163.F, grd_bind, cnd_bind, bnd_bind, non_bind, ← gq163.l1_nat]
def gq163 (s : ByteArray) : Option ByteArray := gq163.F (fun y0 => some y0) s
def gq163.out : ByteArray → CRes := fun a => ⟨encL SV.enc [.one (.str)] (a, ()), [encL SC.enc [] ()]⟩
def gq163.ps : List PS := [.val [none]]
def gq163.sA : List SA := [.v (.one (.str))]
def gq163.fi : FI := FIs gq163.sA (ByteArray) (fun t => gq163 t.1) gq163.out gq163.ps
def gq163.E : Env := ⟨tt, lkF [], 27, 0, [], [], []⟩
def gq163.sh1 : SK := ⟨[.v (.one (.str)), .v (.one (.slo 0)), .v (.one (.int .i64)), .v (.one (.int .i64))], [.arr (.int .u8) [] true]⟩
def gq163.sh1e0 : SK := ⟨[.v (.one (.slo 0))], [.arr (.int .u8) [] true]⟩
def gq163.ko1 : Ex → List CastAt × List Nat
 | .nrm => ([], [])
 | .ret => ([], [])
 | .ext i => cond (Nat.beq i 0) ([], [3]) ([], [])
def gq163.G1 (n : Nat) (R : Type) (t : gq163.sh1.T) (K : Ex → Kp → Option R) : Option R := gq163.l1 (fun y0 => K (.ext 0) (SK.enc gq163.sh1e0 (((), ()), (y0, ())))) n t.1.1 t.1.2.2.1 t.1.2.2.2.1 t.2.1
def gq163.S1 : Sum := ⟨([], [0, 3, 7, 8]), sumF gq163.sh1 (gq163.G1 fuel), gq163.ko1⟩
theorem gq163.ok1 (hE : EOk Tryz.prog (gq163.E)) : SumOk Tryz.prog gq163.E (cB (cR (cL (cR (cR (bodyOf Tryz.f163)))))) (gq163.S1) := by
 have hh : HintOk Tryz.prog gq163.E (cB (cB (cR (cL (cR (cR (bodyOf Tryz.f163))))))) (.a) := HintOk.n1 (Q := True) (by kernel_rfl) trivial
 have h := loopS (kin := ([], [0, 3, 7, 8])) (kout := gq163.ko1) (sh := gq163.sh1) (F := gq163.G1) (ops_ok (hE.gv _)) (by kernel_rfl) hh (fun _ _ _ => rfl) (fun n R t K => by kernel_rfl) fuel
 exact HintOk.n1 (c := (cB (cR (cL (cR (cR (bodyOf Tryz.f163))))))) (h := .s (gq163.S1)) (P := Tryz.prog) (E := gq163.E) (by kernel_rfl) h
theorem gq163.hok (hE : EOk Tryz.prog (gq163.E)) : HintOk Tryz.prog gq163.E (bodyOf Tryz.f163) (.n (.a) (.n (.a) (.n (.n (.a) (.b (.s (gq163.S1)))) (.a)))) := HintOk.n1 (Q := (True) ∧ ((True) ∧ (((True) ∧ (SumOk Tryz.prog gq163.E (cB (cR (cL (cR (cR (bodyOf Tryz.f163)))))) (gq163.S1))) ∧ (True)))) (by kernel_rfl) ⟨trivial, ⟨trivial, ⟨⟨trivial, (gq163.ok1 hE)⟩, trivial⟩⟩⟩
theorem gq163.hE : EOk Tryz.prog (gq163.E) := EOk.of ttOk (trivial)
theorem gq163.fok : FOk Tryz.prog 163 gq163.fi :=
 fokS (E := gq163.E) (wy := ⟨[[none]], [[]], []⟩) (h := (fun gs => .n (.a) (.n (.a) (.n (.n (.a) (.b (.s (gq163.S1)))) (.a))))) (G := fun t g => gq163.F (fun y0 => g y0) t.1) (by kernel_rfl) gq163.hE Tryz.func163 (by kernel_rfl) rfl (Nat.le_refl _) (fun t => HintOk.n1 (by kernel_rfl) (gq163.hok gq163.hE)) (fun t g => gq163.F_nat g (fun y0 => some y0) _) (fun t => by kernel_rfl)
def gq73.F {R : Type} (kk : ByteArray → Option R) (s_Size : Int) (s_Log : ByteArray) (s_Map : ByteArray) : Option R :=
 (gq162 s_Size).bind fun r =>
 grd (gCat (⟨#[115, 105, 122, 101, 32]⟩ : ByteArray) r) <|
 grd (gCat ((⟨#[115, 105, 122, 101, 32]⟩ : ByteArray) ++ r) (⟨#[32, 108, 111, 103, 32]⟩ : ByteArray)) <|
 (gq163 s_Log).bind fun r1 =>
 grd (gCat (((⟨#[115, 105, 122, 101, 32]⟩ : ByteArray) ++ r) ++ (⟨#[32, 108, 111, 103, 32]⟩ : ByteArray)) r1) <|
 grd (gCat ((((⟨#[115, 105, 122, 101, 32]⟩ : ByteArray) ++ r) ++ (⟨#[32, 108, 111, 103, 32]⟩ : ByteArray)) ++ r1) (⟨#[32, 109, 97, 112, 32]⟩ : ByteArray)) <|
 (gq163 s_Map).bind fun r2 =>
 grd (gCat (((((⟨#[115, 105, 122, 101, 32]⟩ : ByteArray) ++ r) ++ (⟨#[32, 108, 111, 103, 32]⟩ : ByteArray)) ++ r1) ++ (⟨#[32, 109, 97, 112, 32]⟩ : ByteArray)) r2) <|
 kk ((((((⟨#[115, 105, 122, 101, 32]⟩ : ByteArray) ++ r) ++ (⟨#[32, 108, 111, 103, 32]⟩ : ByteArray)) ++ r1) ++ (⟨#[32, 109, 97, 112, 32]⟩ : ByteArray)) ++ r2)
theorem gq73.F_nat {R S : Type} (g : R → Option S) (kk : ByteArray → Option R) (s_Size s_Log s_Map) : gq73.F (fun y0 => (kk y0).bind g) s_Size s_Log s_Map = (gq73.F kk s_Size s_Log s_Map).bind g := by
 simp only [gq73.F, grd_bind, cnd_bind, bnd_bind, non_bind]
def gq73 (s_Size : Int) (s_Log : ByteArray) (s_Map : ByteArray) : Option ByteArray := gq73.F (fun y0 => some y0) s_Size s_Log s_Map
def gq73.out : ByteArray → CRes := fun a => ⟨encL SV.enc [.one (.str)] (a, ()), [encL SC.enc [] ()]⟩
def gq73.ps : List PS := [.val [none, none, none]]
def gq73.sA : List SA := [.v (.agg [.int .i64, .str, .str])]
def gq73.fi : FI := FIs gq73.sA (ByteArray) (fun t => gq73 t.1.1 t.1.2.1 t.1.2.2.1) gq73.out gq73.ps
def gq73.E : Env := ⟨tt, lkF [(162, gq162.fi), (163, gq163.fi)], 17, 0, [], [], []⟩
theorem gq73.hok (hE : EOk Tryz.prog (gq73.E)) : HintOk Tryz.prog gq73.E (bodyOf Tryz.f73) (.a) := HintOk.n1 (Q := True) (by kernel_rfl) trivial
theorem gq73.hE : EOk Tryz.prog (gq73.E) := EOk.of ttOk (⟨gq162.fok, ⟨gq163.fok, trivial⟩⟩)
theorem gq73.fok : FOk Tryz.prog 73 gq73.fi :=
 fokS (E := gq73.E) (wy := ⟨[[none]], [[]], []⟩) (h := (fun gs => .a)) (G := fun t g => gq73.F (fun y0 => g y0) t.1.1 t.1.2.1 t.1.2.2.1) (by kernel_rfl) gq73.hE Tryz.func73 (by kernel_rfl) rfl (Nat.le_refl _) (fun t => HintOk.n1 (by kernel_rfl) (gq73.hok gq73.hE)) (fun t g => gq73.F_nat g (fun y0 => some y0) _ _ _) (fun t => by kernel_rfl)
def gq95.F {R : Type} (kk : Bool → Option R) (s_Size : Int) (s_Log : ByteArray) (s_Map : ByteArray) : Option R :=
 (gq92 s_Size (0 : Int) (50 : Int)).bind fun r =>
 cond (r) (
  (gq111 [s_Log, s_Map]).bind fun r1 =>
  kk r1) (kk false)
theorem gq95.F_nat {R S : Type} (g : R → Option S) (kk : Bool → Option R) (s_Size s_Log s_Map) : gq95.F (fun y0 => (kk y0).bind g) s_Size s_Log s_Map = (gq95.F kk s_Size s_Log s_Map).bind g := by
 simp only [gq95.F, grd_bind, cnd_bind, bnd_bind, non_bind]
def gq95 (s_Size : Int) (s_Log : ByteArray) (s_Map : ByteArray) : Option Bool := gq95.F (fun y0 => some y0) s_Size s_Log s_Map
def gq95.out : Bool → CRes := fun a => ⟨encL SV.enc [.one (.bool)] (a, ()), [encL SC.enc [] ()]⟩
def gq95.ps : List PS := [.val [none, none, none]]
def gq95.sA : List SA := [.v (.agg [.int .i64, .str, .str])]
def gq95.fi : FI := FIs gq95.sA (Bool) (fun t => gq95 t.1.1 t.1.2.1 t.1.2.2.1) gq95.out gq95.ps
def gq95.E : Env := ⟨tt, lkF [(92, gq92.fi), (111, gq111.fi)], 14, 0, [], [], []⟩
theorem gq95.hok (hE : EOk Tryz.prog (gq95.E)) : HintOk Tryz.prog gq95.E (bodyOf Tryz.f95) (.a) := HintOk.n1 (Q := True) (by kernel_rfl) trivial
theorem gq95.hE : EOk Tryz.prog (gq95.E) := EOk.of ttOk (⟨gq92.fok, ⟨gq111.fok, trivial⟩⟩)
theorem gq95.fok : FOk Tryz.prog 95 gq95.fi :=
 fokS (E := gq95.E) (wy := ⟨[[none]], [[]], []⟩) (h := (fun gs => .a)) (G := fun t g => gq95.F (fun y0 => g y0) t.1.1 t.1.2.1 t.1.2.2.1) (by kernel_rfl) gq95.hE Tryz.func95 (by kernel_rfl) rfl (Nat.le_refl _) (fun t => HintOk.n1 (by kernel_rfl) (gq95.hok gq95.hE)) (fun t g => gq95.F_nat g (fun y0 => some y0) _ _ _) (fun t => by kernel_rfl)
def gq30.F {R : Type} (kk : ByteArray → Int → Option R) (s_Size : Int) (s_Log : ByteArray) (s_Map : ByteArray) : Option R :=
 (gq95 s_Size s_Log s_Map).bind fun r =>
 cond (!r) (kk ByteArray.empty (1 : Int)) (
  (gq73 s_Size s_Log s_Map).bind fun r1 =>
  kk r1 (0 : Int))
theorem gq30.F_nat {R S : Type} (g : R → Option S) (kk : ByteArray → Int → Option R) (s_Size s_Log s_Map) : gq30.F (fun y0 y1 => (kk y0 y1).bind g) s_Size s_Log s_Map = (gq30.F kk s_Size s_Log s_Map).bind g := by
 simp only [gq30.F, grd_bind, cnd_bind, bnd_bind, non_bind]
def gq30 (s_Size : Int) (s_Log : ByteArray) (s_Map : ByteArray) : Option (ByteArray × Int) := gq30.F (fun y0 y1 => some (y0, y1)) s_Size s_Log s_Map
def gq30.out : (ByteArray × Int) → CRes := fun a => ⟨encL SV.enc [.one (.str), .one (.int .i64)] (a.1, a.2, ()), [encL SC.enc [] ()]⟩
def gq30.ps : List PS := [.val [none, none, none]]
def gq30.sA : List SA := [.v (.agg [.int .i64, .str, .str])]
def gq30.fi : FI := FIs gq30.sA (ByteArray × Int) (fun t => gq30 t.1.1 t.1.2.1 t.1.2.2.1) gq30.out gq30.ps
def gq30.E : Env := ⟨tt, lkF [(73, gq73.fi), (95, gq95.fi)], 9, 0, [], [], []⟩
theorem gq30.hok (hE : EOk Tryz.prog (gq30.E)) : HintOk Tryz.prog gq30.E (bodyOf Tryz.f30) (.a) := HintOk.n1 (Q := True) (by kernel_rfl) trivial
theorem gq30.hE : EOk Tryz.prog (gq30.E) := EOk.of ttOk (⟨gq73.fok, ⟨gq95.fok, trivial⟩⟩)
theorem gq30.fok : FOk Tryz.prog 30 gq30.fi :=
 fokS (E := gq30.E) (wy := ⟨[[none], [none]], [[]], []⟩) (h := (fun gs => .a)) (G := fun t g => gq30.F (fun y0 y1 => g (y0, y1)) t.1.1 t.1.2.1 t.1.2.2.1) (by kernel_rfl) gq30.hE Tryz.func30 (by kernel_rfl) rfl (Nat.le_refl _) (fun t => HintOk.n1 (by kernel_rfl) (gq30.hok gq30.hE)) (fun t g => gq30.F_nat g (fun y0 y1 => some (y0, y1)) _ _ _) (fun t => by kernel_rfl)
def gq160.l1 {R : Type} (kke0 : ByteArray → Option R) : Nat → ByteArray → Int → Int → Int → Option R
 | 0, _, _, _, _ => none
 | n + 1, start, from_, steps, i =>
  cond (decide (i < (IntKind.wrap .i64 (from_ + steps)))) (
   (gq208 i (1 : Int)).bind fun r =>
   grd (gCat (⟨#[3]⟩ : ByteArray) r) <|
   grd (gCat ((⟨#[3]⟩ : ByteArray) ++ r) start) <|
   (i_hash (((⟨#[3]⟩ : ByteArray) ++ r) ++ start)).bind fun r1 =>
   gq160.l1 kke0 n r1 from_ steps (IntKind.wrap .i64 (i + (1 : Int)))) (kke0 start)
theorem gq160.l1_nat {R S : Type} (g : R → Option S) (kke0 : ByteArray → Option R) : ∀ n start from_ steps i, gq160.l1 (fun y0 => (kke0 y0).bind g) n start from_ steps i = (gq160.l1 kke0 n start from_ steps i).bind g := by
 intro n
 induction n with
 | zero => intros; rfl
 | succ n ih => intros; simp only [gq160.l1, grd_bind, cnd_bind, bnd_bind, non_bind, ih]
def gq160.F {R : Type} (kk : ByteArray → Option R) (start : ByteArray) (from_ : Int) (steps : Int) : Option R :=
 gq160.l1 (fun start1 => kk start1) fuel start from_ steps from_
theorem gq160.F_nat {R S : Type} (g : R → Option S) (kk : ByteArray → Option R) (start from_ steps) : gq160.F (fun y0 => (kk y0).bind g) start from_ steps = (gq160.F kk start from_ steps).bind g := by
 simp only [gq160.F, grd_bind, cnd_bind, bnd_bind, non_bind, ← gq160.l1_nat]
def gq160 (start : ByteArray) (from_ : Int) (steps : Int) : Option ByteArray := gq160.F (fun y0 => some y0) start from_ steps
def gq160.out : ByteArray → CRes := fun a => ⟨encL SV.enc [.one (.str)] (a, ()), [encL SC.enc [] (), encL SC.enc [] (), encL SC.enc [] ()]⟩
def gq160.ps : List PS := [.val [none], .val [none], .val [none]]
def gq160.sA : List SA := [.v (.one (.str)), .v (.one (.int .i64)), .v (.one (.int .i64))]
def gq160.fi : FI := FIs gq160.sA (ByteArray) (fun t => gq160 t.1 t.2.1 t.2.2.1) gq160.out gq160.ps
def gq160.E : Env := ⟨tt, lkF [(125, i_hash.fi), (208, gq208.fi)], 23, 0, [], [], []⟩
def gq160.sh1 : SK := ⟨[.v (.one (.str)), .v (.one (.int .i64)), .v (.one (.int .i64)), .v (.one (.int .i64))], []⟩
def gq160.sh1e0 : SK := ⟨[.v (.one (.str))], []⟩
def gq160.ko1 : Ex → List CastAt × List Nat
 | .nrm => ([], [])
 | .ret => ([], [])
 | .ext i => cond (Nat.beq i 0) ([], [0]) ([], [])
def gq160.G1 (n : Nat) (R : Type) (t : gq160.sh1.T) (K : Ex → Kp → Option R) : Option R := gq160.l1 (fun y0 => K (.ext 0) (SK.enc gq160.sh1e0 ((y0, ()), ()))) n t.1.1 t.1.2.1 t.1.2.2.1 t.1.2.2.2.1
def gq160.S1 : Sum := ⟨([], [0, 1, 2, 7]), sumF gq160.sh1 (gq160.G1 fuel), gq160.ko1⟩
theorem gq160.ok1 (hE : EOk Tryz.prog (gq160.E)) : SumOk Tryz.prog gq160.E (cB (cR (cL (cR (bodyOf Tryz.f160))))) (gq160.S1) := by
 have hh : HintOk Tryz.prog gq160.E (cB (cB (cR (cL (cR (bodyOf Tryz.f160)))))) (.a) := HintOk.n1 (Q := True) (by kernel_rfl) trivial
 have h := loopS (kin := ([], [0, 1, 2, 7])) (kout := gq160.ko1) (sh := gq160.sh1) (F := gq160.G1) (ops_ok (hE.gv _)) (by kernel_rfl) hh (fun _ _ _ => rfl) (fun n R t K => by kernel_rfl) fuel
 exact HintOk.n1 (c := (cB (cR (cL (cR (bodyOf Tryz.f160)))))) (h := .s (gq160.S1)) (P := Tryz.prog) (E := gq160.E) (by kernel_rfl) h
theorem gq160.hok (hE : EOk Tryz.prog (gq160.E)) : HintOk Tryz.prog gq160.E (bodyOf Tryz.f160) (.n (.a) (.n (.n (.a) (.b (.s (gq160.S1)))) (.a))) := HintOk.n1 (Q := (True) ∧ (((True) ∧ (SumOk Tryz.prog gq160.E (cB (cR (cL (cR (bodyOf Tryz.f160))))) (gq160.S1))) ∧ (True))) (by kernel_rfl) ⟨trivial, ⟨⟨trivial, (gq160.ok1 hE)⟩, trivial⟩⟩
theorem gq160.hE : EOk Tryz.prog (gq160.E) := EOk.of ttOk (⟨i_hash.fok, ⟨gq208.fok, trivial⟩⟩)
theorem gq160.fok : FOk Tryz.prog 160 gq160.fi :=
 fokS (E := gq160.E) (wy := ⟨[[none]], [[], [], []], []⟩) (h := (fun gs => .n (.a) (.n (.n (.a) (.b (.s (gq160.S1)))) (.a)))) (G := fun t g => gq160.F (fun y0 => g y0) t.1 t.2.1 t.2.2.1) (by kernel_rfl) gq160.hE Tryz.func160 (by kernel_rfl) rfl (Nat.le_refl _) (fun t => HintOk.n1 (by kernel_rfl) (gq160.hok gq160.hE)) (fun t g => gq160.F_nat g (fun y0 => some y0) _ _ _) (fun t => by kernel_rfl)
def gq161.F {R : Type} (kk : ByteArray → Option R) (seed : ByteArray) (index : Int) (own : Int) : Option R :=
 (gq208 index (1 : Int)).bind fun r =>
 grd (gCat (⟨#[4]⟩ : ByteArray) r) <|
 (gq208 own (1 : Int)).bind fun r1 =>
 grd (gCat ((⟨#[4]⟩ : ByteArray) ++ r) r1) <|
 grd (gCat (((⟨#[4]⟩ : ByteArray) ++ r) ++ r1) seed) <|
 (i_hash ((((⟨#[4]⟩ : ByteArray) ++ r) ++ r1) ++ seed)).bind fun r2 =>
 kk r2
theorem gq161.F_nat {R S : Type} (g : R → Option S) (kk : ByteArray → Option R) (seed index own) : gq161.F (fun y0 => (kk y0).bind g) seed index own = (gq161.F kk seed index own).bind g := by
 simp only [gq161.F, grd_bind, cnd_bind, bnd_bind, non_bind]
def gq161 (seed : ByteArray) (index : Int) (own : Int) : Option ByteArray := gq161.F (fun y0 => some y0) seed index own
def gq161.out : ByteArray → CRes := fun a => ⟨encL SV.enc [.one (.str)] (a, ()), [encL SC.enc [] (), encL SC.enc [] (), encL SC.enc [] ()]⟩
def gq161.ps : List PS := [.val [none], .val [none], .val [none]]
def gq161.sA : List SA := [.v (.one (.str)), .v (.one (.int .i64)), .v (.one (.int .i64))]
def gq161.fi : FI := FIs gq161.sA (ByteArray) (fun t => gq161 t.1 t.2.1 t.2.2.1) gq161.out gq161.ps
def gq161.E : Env := ⟨tt, lkF [(125, i_hash.fi), (208, gq208.fi)], 16, 0, [], [], []⟩
theorem gq161.hok (hE : EOk Tryz.prog (gq161.E)) : HintOk Tryz.prog gq161.E (bodyOf Tryz.f161) (.a) := HintOk.n1 (Q := True) (by kernel_rfl) trivial
theorem gq161.hE : EOk Tryz.prog (gq161.E) := EOk.of ttOk (⟨i_hash.fok, ⟨gq208.fok, trivial⟩⟩)
theorem gq161.fok : FOk Tryz.prog 161 gq161.fi :=
 fokS (E := gq161.E) (wy := ⟨[[none]], [[], [], []], []⟩) (h := (fun gs => .a)) (G := fun t g => gq161.F (fun y0 => g y0) t.1 t.2.1 t.2.2.1) (by kernel_rfl) gq161.hE Tryz.func161 (by kernel_rfl) rfl (Nat.le_refl _) (fun t => HintOk.n1 (by kernel_rfl) (gq161.hok gq161.hE)) (fun t g => gq161.F_nat g (fun y0 => some y0) _ _ _) (fun t => by kernel_rfl)
def gq244.l1 {R : Type} (kke0 : ByteArray → Option R) : Nat → ByteArray → List ByteArray → Int → Int → Option R
 | 0, _, _, _, _ => none
 | n + 1, all, l, i, i1 =>
  cond (decide (i1 < i)) (
   grd (gIx i1 (List.length l)) <|
   grd (gCat all (rdE (.str : Kd) l (Int.toNat i1))) <|
   gq244.l1 kke0 n (all ++ (rdE (.str : Kd) l (Int.toNat i1))) l i (IntKind.wrap .i64 (i1 + (1 : Int)))) (kke0 all)
theorem gq244.l1_nat {R S : Type} (g : R → Option S) (kke0 : ByteArray → Option R) : ∀ n all l i i1, gq244.l1 (fun y0 => (kke0 y0).bind g) n all l i i1 = (gq244.l1 kke0 n all l i i1).bind g := by
 intro n
 induction n with
 | zero => intros; rfl
 | succ n ih => intros; simp only [gq244.l1, grd_bind, cnd_bind, bnd_bind, non_bind, ih]
def gq244.F {R : Type} (kk : ByteArray → Option R) (ends : List ByteArray) : Option R :=
 gq244.l1 (fun all =>
  (i_hash all).bind fun r =>
  kk r) fuel (⟨#[5]⟩ : ByteArray) ends (List.length ends : Int) (0 : Int)
theorem gq244.F_nat {R S : Type} (g : R → Option S) (kk : ByteArray → Option R) (ends) : gq244.F (fun y0 => (kk y0).bind g) ends = (gq244.F kk ends).bind g := by
 simp only [gq244.F, grd_bind, cnd_bind, bnd_bind, non_bind, ← gq244.l1_nat]
def gq244 (ends : List ByteArray) : Option ByteArray := gq244.F (fun y0 => some y0) ends
def gq244.out : ByteArray → CRes := fun a => ⟨encL SV.enc [.one (.str)] (a, ()), [encL SC.enc [] ()]⟩
def gq244.ps : List PS := [.val [some (.str, false)]]
def gq244.sA : List SA := [.v (.one (.slv [] .str))]
def gq244.fi : FI := FIs gq244.sA (ByteArray) (fun t => gq244 t.1) gq244.out gq244.ps
def gq244.E : Env := ⟨tt, lkF [(125, i_hash.fi)], 18, 0, [], [], []⟩
def gq244.sh1 : SK := ⟨[.v (.one (.str)), .v (.one (.slv [1] .str)), .v (.one (.int .i64)), .v (.one (.int .i64))], []⟩
def gq244.sh1e0 : SK := ⟨[.v (.one (.str))], []⟩
def gq244.ko1 : Ex → List CastAt × List Nat
 | .nrm => ([], [])
 | .ret => ([], [])
 | .ext i => cond (Nat.beq i 0) ([], [3]) ([], [])
def gq244.G1 (n : Nat) (R : Type) (t : gq244.sh1.T) (K : Ex → Kp → Option R) : Option R := gq244.l1 (fun y0 => K (.ext 0) (SK.enc gq244.sh1e0 ((y0, ()), ()))) n t.1.1 t.1.2.1 t.1.2.2.1 t.1.2.2.2.1
def gq244.S1 : Sum := ⟨([], [3, 6, 7, 8]), sumF gq244.sh1 (gq244.G1 fuel), gq244.ko1⟩
theorem gq244.ok1 (hE : EOk Tryz.prog (gq244.E)) : SumOk Tryz.prog gq244.E (cB (cR (cL (cR (cR (bodyOf Tryz.f244)))))) (gq244.S1) := by
 have hh : HintOk Tryz.prog gq244.E (cB (cB (cR (cL (cR (cR (bodyOf Tryz.f244))))))) (.a) := HintOk.n1 (Q := True) (by kernel_rfl) trivial
 have h := loopS (kin := ([], [3, 6, 7, 8])) (kout := gq244.ko1) (sh := gq244.sh1) (F := gq244.G1) (ops_ok (hE.gv _)) (by kernel_rfl) hh (fun _ _ _ => rfl) (fun n R t K => by kernel_rfl) fuel
 exact HintOk.n1 (c := (cB (cR (cL (cR (cR (bodyOf Tryz.f244))))))) (h := .s (gq244.S1)) (P := Tryz.prog) (E := gq244.E) (by kernel_rfl) h
theorem gq244.hok (hE : EOk Tryz.prog (gq244.E)) : HintOk Tryz.prog gq244.E (bodyOf Tryz.f244) (.n (.a) (.n (.a) (.n (.n (.a) (.b (.s (gq244.S1)))) (.a)))) := HintOk.n1 (Q := (True) ∧ ((True) ∧ (((True) ∧ (SumOk Tryz.prog gq244.E (cB (cR (cL (cR (cR (bodyOf Tryz.f244)))))) (gq244.S1))) ∧ (True)))) (by kernel_rfl) ⟨trivial, ⟨trivial, ⟨⟨trivial, (gq244.ok1 hE)⟩, trivial⟩⟩⟩
theorem gq244.hE : EOk Tryz.prog (gq244.E) := EOk.of ttOk (⟨i_hash.fok, trivial⟩)
theorem gq244.fok : FOk Tryz.prog 244 gq244.fi :=
 fokS (E := gq244.E) (wy := ⟨[[none]], [[]], []⟩) (h := (fun gs => .n (.a) (.n (.a) (.n (.n (.a) (.b (.s (gq244.S1)))) (.a))))) (G := fun t g => gq244.F (fun y0 => g y0) t.1) (by kernel_rfl) gq244.hE Tryz.func244 (by kernel_rfl) rfl (Nat.le_refl _) (fun t => HintOk.n1 (by kernel_rfl) (gq244.hok gq244.hE)) (fun t g => gq244.F_nat g (fun y0 => some y0) _) (fun t => by kernel_rfl)
def gq194.l1 {R : Type} (kke0 : List ByteArray → Option R) : Nat → ByteArray → Int → Int → List ByteArray → Option R
 | 0, _, _, _, _ => none
 | n + 1, seed, index, i, ends =>
  cond (decide (i < (18 : Int))) (
   (gq161 seed index i).bind fun r =>
   (gq160 r (0 : Int) (15 : Int)).bind fun r1 =>
   grd (gRm (((List.length ends) + (List.length [r1])) * 16)) <|
   gq194.l1 kke0 n seed index (IntKind.wrap .i64 (i + (1 : Int))) (ends ++ [r1])) (kke0 ends)
theorem gq194.l1_nat {R S : Type} (g : R → Option S) (kke0 : List ByteArray → Option R) : ∀ n seed index i ends, gq194.l1 (fun y0 => (kke0 y0).bind g) n seed index i ends = (gq194.l1 kke0 n seed index i ends).bind g := by
 intro n
 induction n with
 | zero => intros; rfl
 | succ n ih => intros; simp only [gq194.l1, grd_bind, cnd_bind, bnd_bind, non_bind, ih]
def gq194.F {R : Type} (kk : ByteArray → Option R) (seed : ByteArray) (index : Int) : Option R :=
 gq194.l1 (fun ends =>
  (gq244 ends).bind fun r =>
  kk r) fuel seed index (0 : Int) ([] : List ByteArray)
theorem gq194.F_nat {R S : Type} (g : R → Option S) (kk : ByteArray → Option R) (seed index) : gq194.F (fun y0 => (kk y0).bind g) seed index = (gq194.F kk seed index).bind g := by
 simp only [gq194.F, grd_bind, cnd_bind, bnd_bind, non_bind, ← gq194.l1_nat]
def gq194 (seed : ByteArray) (index : Int) : Option ByteArray := gq194.F (fun y0 => some y0) seed index
def gq194.out : ByteArray → CRes := fun a => ⟨encL SV.enc [.one (.str)] (a, ()), [encL SC.enc [] (), encL SC.enc [] ()]⟩
def gq194.ps : List PS := [.val [none], .val [none]]
def gq194.sA : List SA := [.v (.one (.str)), .v (.one (.int .i64))]
def gq194.fi : FI := FIs gq194.sA (ByteArray) (fun t => gq194 t.1 t.2.1) gq194.out gq194.ps
def gq194.E : Env := ⟨tt, lkF [(160, gq160.fi), (161, gq161.fi), (244, gq244.fi)], 22, 0, [], [], []⟩
def gq194.sh1 : SK := ⟨[.v (.one (.str)), .v (.one (.int .i64)), .v (.one (.slo 0)), .v (.one (.int .i64))], [.arr .str [] true]⟩
def gq194.sh1e0 : SK := ⟨[.v (.one (.slo 0))], [.arr .str [] true]⟩
def gq194.ko1 : Ex → List CastAt × List Nat
 | .nrm => ([], [])
 | .ret => ([], [])
 | .ext i => cond (Nat.beq i 0) ([], [5]) ([], [])
def gq194.G1 (n : Nat) (R : Type) (t : gq194.sh1.T) (K : Ex → Kp → Option R) : Option R := gq194.l1 (fun y0 => K (.ext 0) (SK.enc gq194.sh1e0 (((), ()), (y0, ())))) n t.1.1 t.1.2.1 t.1.2.2.2.1 t.2.1
def gq194.S1 : Sum := ⟨([], [0, 1, 5, 8]), sumF gq194.sh1 (gq194.G1 fuel), gq194.ko1⟩
theorem gq194.ok1 (hE : EOk Tryz.prog (gq194.E)) : SumOk Tryz.prog gq194.E (cB (cR (cL (cR (cR (bodyOf Tryz.f194)))))) (gq194.S1) := by
 have hh : HintOk Tryz.prog gq194.E (cB (cB (cR (cL (cR (cR (bodyOf Tryz.f194))))))) (.a) := HintOk.n1 (Q := True) (by kernel_rfl) trivial
 have h := loopS (kin := ([], [0, 1, 5, 8])) (kout := gq194.ko1) (sh := gq194.sh1) (F := gq194.G1) (ops_ok (hE.gv _)) (by kernel_rfl) hh (fun _ _ _ => rfl) (fun n R t K => by kernel_rfl) fuel
 exact HintOk.n1 (c := (cB (cR (cL (cR (cR (bodyOf Tryz.f194))))))) (h := .s (gq194.S1)) (P := Tryz.prog) (E := gq194.E) (by kernel_rfl) h
theorem gq194.hok (hE : EOk Tryz.prog (gq194.E)) : HintOk Tryz.prog gq194.E (bodyOf Tryz.f194) (.n (.a) (.n (.a) (.n (.n (.a) (.b (.s (gq194.S1)))) (.a)))) := HintOk.n1 (Q := (True) ∧ ((True) ∧ (((True) ∧ (SumOk Tryz.prog gq194.E (cB (cR (cL (cR (cR (bodyOf Tryz.f194)))))) (gq194.S1))) ∧ (True)))) (by kernel_rfl) ⟨trivial, ⟨trivial, ⟨⟨trivial, (gq194.ok1 hE)⟩, trivial⟩⟩⟩
theorem gq194.hE : EOk Tryz.prog (gq194.E) := EOk.of ttOk (⟨gq160.fok, ⟨gq161.fok, ⟨gq244.fok, trivial⟩⟩⟩)
theorem gq194.fok : FOk Tryz.prog 194 gq194.fi :=
 fokS (E := gq194.E) (wy := ⟨[[none]], [[], []], []⟩) (h := (fun gs => .n (.a) (.n (.a) (.n (.n (.a) (.b (.s (gq194.S1)))) (.a))))) (G := fun t g => gq194.F (fun y0 => g y0) t.1 t.2.1) (by kernel_rfl) gq194.hE Tryz.func194 (by kernel_rfl) rfl (Nat.le_refl _) (fun t => HintOk.n1 (by kernel_rfl) (gq194.hok gq194.hE)) (fun t g => gq194.F_nat g (fun y0 => some y0) _ _) (fun t => by kernel_rfl)
def gq112.l1 {R : Type} (kke0 : List ByteArray → Option R) : Nat → ByteArray → Int → List ByteArray → Option R
 | 0, _, _, _ => none
 | n + 1, seed, i, out =>
  cond (decide (i < (4 : Int))) (
   (gq194 seed i).bind fun r =>
   grd (gRm (((List.length out) + (List.length [r])) * 16)) <|
   gq112.l1 kke0 n seed (IntKind.wrap .i64 (i + (1 : Int))) (out ++ [r])) (kke0 out)
theorem gq112.l1_nat {R S : Type} (g : R → Option S) (kke0 : List ByteArray → Option R) : ∀ n seed i out, gq112.l1 (fun y0 => (kke0 y0).bind g) n seed i out = (gq112.l1 kke0 n seed i out).bind g := by
 intro n
 induction n with
 | zero => intros; rfl
 | succ n ih => intros; simp only [gq112.l1, grd_bind, cnd_bind, bnd_bind, non_bind, ih]
def gq112.F {R : Type} (kk : List ByteArray → Option R) (seed : ByteArray) : Option R :=
 gq112.l1 (fun out => kk out) fuel seed (0 : Int) ([] : List ByteArray)
theorem gq112.F_nat {R S : Type} (g : R → Option S) (kk : List ByteArray → Option R) (seed) : gq112.F (fun y0 => (kk y0).bind g) seed = (gq112.F kk seed).bind g := by
 simp only [gq112.F, grd_bind, cnd_bind, bnd_bind, non_bind, ← gq112.l1_nat]
def gq112 (seed : ByteArray) : Option (List ByteArray) := gq112.F (fun y0 => some y0) seed
def gq112.out : (List ByteArray) → CRes := fun a => ⟨encL SV.enc [.one (.own [] .str true)] (a, ()), [encL SC.enc [] ()]⟩
def gq112.ps : List PS := [.val [none]]
def gq112.sA : List SA := [.v (.one (.str))]
def gq112.fi : FI := FIs gq112.sA (List ByteArray) (fun t => gq112 t.1) gq112.out gq112.ps
def gq112.E : Env := ⟨tt, lkF [(194, gq194.fi)], 17, 0, [], [], []⟩
def gq112.sh1 : SK := ⟨[.v (.one (.str)), .v (.one (.slo 0)), .v (.one (.int .i64))], [.arr .str [] true]⟩
def gq112.sh1e0 : SK := ⟨[.v (.one (.slo 0))], [.arr .str [] true]⟩
def gq112.ko1 : Ex → List CastAt × List Nat
 | .nrm => ([], [])
 | .ret => ([], [])
 | .ext i => cond (Nat.beq i 0) ([], [3]) ([], [])
def gq112.G1 (n : Nat) (R : Type) (t : gq112.sh1.T) (K : Ex → Kp → Option R) : Option R := gq112.l1 (fun y0 => K (.ext 0) (SK.enc gq112.sh1e0 (((), ()), (y0, ())))) n t.1.1 t.1.2.2.1 t.2.1
def gq112.S1 : Sum := ⟨([], [0, 3, 6]), sumF gq112.sh1 (gq112.G1 fuel), gq112.ko1⟩
theorem gq112.ok1 (hE : EOk Tryz.prog (gq112.E)) : SumOk Tryz.prog gq112.E (cB (cR (cL (cR (cR (bodyOf Tryz.f112)))))) (gq112.S1) := by
 have hh : HintOk Tryz.prog gq112.E (cB (cB (cR (cL (cR (cR (bodyOf Tryz.f112))))))) (.a) := HintOk.n1 (Q := True) (by kernel_rfl) trivial
 have h := loopS (kin := ([], [0, 3, 6])) (kout := gq112.ko1) (sh := gq112.sh1) (F := gq112.G1) (ops_ok (hE.gv _)) (by kernel_rfl) hh (fun _ _ _ => rfl) (fun n R t K => by kernel_rfl) fuel
 exact HintOk.n1 (c := (cB (cR (cL (cR (cR (bodyOf Tryz.f112))))))) (h := .s (gq112.S1)) (P := Tryz.prog) (E := gq112.E) (by kernel_rfl) h
theorem gq112.hok (hE : EOk Tryz.prog (gq112.E)) : HintOk Tryz.prog gq112.E (bodyOf Tryz.f112) (.n (.a) (.n (.a) (.n (.n (.a) (.b (.s (gq112.S1)))) (.a)))) := HintOk.n1 (Q := (True) ∧ ((True) ∧ (((True) ∧ (SumOk Tryz.prog gq112.E (cB (cR (cL (cR (cR (bodyOf Tryz.f112)))))) (gq112.S1))) ∧ (True)))) (by kernel_rfl) ⟨trivial, ⟨trivial, ⟨⟨trivial, (gq112.ok1 hE)⟩, trivial⟩⟩⟩
theorem gq112.hE : EOk Tryz.prog (gq112.E) := EOk.of ttOk (⟨gq194.fok, trivial⟩)
theorem gq112.fok : FOk Tryz.prog 112 gq112.fi :=
 fokS (E := gq112.E) (wy := ⟨[[some (.str, true)]], [[]], []⟩) (h := (fun gs => .n (.a) (.n (.a) (.n (.n (.a) (.b (.s (gq112.S1)))) (.a))))) (G := fun t g => gq112.F (fun y0 => g y0) t.1) (by kernel_rfl) gq112.hE Tryz.func112 (by kernel_rfl) rfl (Nat.le_refl _) (fun t => HintOk.n1 (by kernel_rfl) (gq112.hok gq112.hE)) (fun t g => gq112.F_nat g (fun y0 => some y0) _) (fun t => by kernel_rfl)
def gq120.F {R : Type} (rc : List ByteArray → Int → Option (List ByteArray)) (kk : List ByteArray → Option R) (leaves : List ByteArray) (at_ : Int) : Option R :=
 cond (decide ((List.length leaves : Int) ≤ (1 : Int))) (kk []) (
  (gq179 (List.length leaves : Int)).bind fun r =>
  cond (decide (at_ < r)) (
   grd (gSl (0 : Int) r (List.length leaves)) <|
   (rc (sub leaves (0 : Int) r) at_).bind fun r1 =>
   grd (gSl r (List.length leaves : Int) (List.length leaves)) <|
   (gq94 fuel (sub leaves r (List.length leaves : Int))).bind fun r2 =>
   grd (gRm (((List.length r1) + (List.length [r2])) * 16)) <|
   kk (r1 ++ [r2])) (
   grd (gSl r (List.length leaves : Int) (List.length leaves)) <|
   (rc (sub leaves r (List.length leaves : Int)) (IntKind.wrap .i64 (at_ - r))).bind fun r3 =>
   grd (gSl (0 : Int) r (List.length leaves)) <|
   (gq94 fuel (sub leaves (0 : Int) r)).bind fun r4 =>
   grd (gRm (((List.length r3) + (List.length [r4])) * 16)) <|
   kk (r3 ++ [r4])))
theorem gq120.F_nat {R S : Type} (g : R → Option S) (rc : List ByteArray → Int → Option (List ByteArray)) (kk : List ByteArray → Option R) (leaves at_) : gq120.F rc (fun y0 => (kk y0).bind g) leaves at_ = (gq120.F rc kk leaves at_).bind g := by
 simp only [gq120.F, grd_bind, cnd_bind, bnd_bind, non_bind]
def gq120 : Nat → List ByteArray → Int → Option (List ByteArray)
 | 0, _, _ => none
 | fu + 1, leaves, at_ => gq120.F (gq120 fu) (fun y0 => some y0) leaves at_
theorem gq120_nat {S : Type} (fu : Nat) (g : (List ByteArray) → Option S) (leaves : List ByteArray) (at_ : Int) : gq120.F (gq120 fu) (fun y0 => g y0) leaves at_ = (gq120 (fu + 1) leaves at_).bind g := gq120.F_nat g (gq120 fu) (fun y0 => some y0) leaves at_
def gq120.out : (List ByteArray) → CRes := fun a => ⟨encL SV.enc [.one (.own [] .str true)] (a, ()), [encL SC.enc [] (), encL SC.enc [] ()]⟩
def gq120.ps : List PS := [.val [some (.str, false)], .val [none]]
def gq120.sA : List SA := [.v (.one (.slv [] .str)), .v (.one (.int .i64))]
def gq120.fi (fu : Nat) : FI := FIs gq120.sA (List ByteArray) (fun t => gq120 fu t.1 t.2.1) gq120.out gq120.ps
def gq120.E (fu : Nat) : Env := ⟨tt, lkF [(94, gq94.fi fuel), (120, gq120.fi fu), (179, gq179.fi)], 39, 0, [], [], []⟩
theorem gq120.hok (fu : Nat) (hE : EOk Tryz.prog (gq120.E fu)) : HintOk Tryz.prog (gq120.E fu) (bodyOf Tryz.f120) (.a) := HintOk.n1 (Q := True) (by kernel_rfl) trivial
theorem gq120.fok0 : FOk Tryz.prog 120 (gq120.fi 0) := FOk.zero ⟨_, _, Tryz.func120, by kernel_rfl, rfl⟩ (fun _ => rfl)
theorem gq120.fok1 (fu : Nat) (ih : FOk Tryz.prog 120 (gq120.fi fu)) : FOk Tryz.prog 120 (gq120.fi (fu + 1)) := by
 have hE : EOk Tryz.prog (gq120.E fu) := EOk.of ttOk (⟨gq94.fok fuel, ⟨ih, ⟨gq179.fok, trivial⟩⟩⟩)
 exact fokS (E := gq120.E fu) (wy := ⟨[[some (.str, true)]], [[], []], []⟩) (h := (fun gs => .a)) (G := fun t g => gq120.F (gq120 fu) (fun y0 => g y0) t.1 t.2.1) (by kernel_rfl) hE Tryz.func120 (by kernel_rfl) rfl (Nat.le_refl _) (fun t => HintOk.n1 (by kernel_rfl) (gq120.hok fu hE)) (fun t g => gq120_nat fu g t.1 t.2.1) (fun t => by kernel_rfl)
theorem gq120.fok (fu : Nat) : FOk Tryz.prog 120 (gq120.fi fu) := Nat.rec gq120.fok0 gq120.fok1 fu
def gq159.l1 {R : Type} (kke0 : Int → List Int → Option R) : Nat → Int → ByteArray → Int → List Int → Option R
 | 0, _, _, _, _ => none
 | n + 1, sum, h, i, out =>
  cond (decide (i < (8 : Int))) (
   grd (gIx i (ByteArray.size h)) <|
   grd (gSh (4 : Int)) <|
   grd (gIx i (ByteArray.size h)) <|
   grd (gRm (((List.length out) + (List.length [IntKind.wrap .i64 (iShr .u8 (byteAt h i) (4 : Int)), IntKind.wrap .i64 (iAnd .u8 (byteAt h i) (15 : Int))])) * 8)) <|
   gq159.l1 kke0 n (IntKind.wrap .i64 (sum + (IntKind.wrap .i64 ((IntKind.wrap .i64 ((30 : Int) - (IntKind.wrap .i64 (iShr .u8 (byteAt h i) (4 : Int))))) - (IntKind.wrap .i64 (iAnd .u8 (byteAt h i) (15 : Int))))))) h (IntKind.wrap .i64 (i + (1 : Int))) (out ++ [IntKind.wrap .i64 (iShr .u8 (byteAt h i) (4 : Int)), IntKind.wrap .i64 (iAnd .u8 (byteAt h i) (15 : Int))])) (kke0 sum out)
theorem gq159.l1_nat {R S : Type} (g : R → Option S) (kke0 : Int → List Int → Option R) : ∀ n sum h i out, gq159.l1 (fun y0 y1 => (kke0 y0 y1).bind g) n sum h i out = (gq159.l1 kke0 n sum h i out).bind g := by
 intro n
 induction n with
 | zero => intros; rfl
 | succ n ih => intros; simp only [gq159.l1, grd_bind, cnd_bind, bnd_bind, non_bind, ih]
def gq159.F {R : Type} (kk : List Int → Option R) (msg : ByteArray) : Option R :=
 (i_hash msg).bind fun r =>
 gq159.l1 (fun sum out =>
  grd (gNz (16 : Int)) <|
  grd (gNz (16 : Int)) <|
  grd (gRm (((List.length out) + (List.length [IntKind.wrap .i64 (Int.tdiv sum (16 : Int)), Int.tmod sum (16 : Int)])) * 8)) <|
  kk (out ++ [IntKind.wrap .i64 (Int.tdiv sum (16 : Int)), Int.tmod sum (16 : Int)])) fuel (0 : Int) r (0 : Int) ([] : List Int)
theorem gq159.F_nat {R S : Type} (g : R → Option S) (kk : List Int → Option R) (msg) : gq159.F (fun y0 => (kk y0).bind g) msg = (gq159.F kk msg).bind g := by
 simp only [gq159.F, grd_bind, cnd_bind, bnd_bind, non_bind, ← gq159.l1_nat]
def gq159 (msg : ByteArray) : Option (List Int) := gq159.F (fun y0 => some y0) msg
def gq159.out : (List Int) → CRes := fun a => ⟨encL SV.enc [.one (.own [] (.int .i64) true)] (a, ()), [encL SC.enc [] ()]⟩
def gq159.ps : List PS := [.val [none]]
def gq159.sA : List SA := [.v (.one (.str))]
def gq159.fi : FI := FIs gq159.sA (List Int) (fun t => gq159 t.1) gq159.out gq159.ps
def gq159.E : Env := ⟨tt, lkF [(125, i_hash.fi)], 44, 0, [], [], []⟩
def gq159.sh1 : SK := ⟨[.v (.one (.slo 0)), .v (.one (.int .i64)), .v (.one (.str)), .v (.one (.int .i64))], [.arr (.int .i64) [] true]⟩
def gq159.sh1e0 : SK := ⟨[.v (.one (.slo 0)), .v (.one (.int .i64))], [.arr (.int .i64) [] true]⟩
def gq159.ko1 : Ex → List CastAt × List Nat
 | .nrm => ([], [])
 | .ret => ([], [])
 | .ext i => cond (Nat.beq i 0) ([], [3, 4]) ([], [])
def gq159.G1 (n : Nat) (R : Type) (t : gq159.sh1.T) (K : Ex → Kp → Option R) : Option R := gq159.l1 (fun y0 y1 => K (.ext 0) (SK.enc gq159.sh1e0 (((), y0, ()), (y1, ())))) n t.1.2.1 t.1.2.2.1 t.1.2.2.2.1 t.2.1
def gq159.S1 : Sum := ⟨([], [3, 4, 5, 12]), sumF gq159.sh1 (gq159.G1 fuel), gq159.ko1⟩
theorem gq159.ok1 (hE : EOk Tryz.prog (gq159.E)) : SumOk Tryz.prog gq159.E (cB (cR (cL (cR (cR (cR (bodyOf Tryz.f159))))))) (gq159.S1) := by
 have hh : HintOk Tryz.prog gq159.E (cB (cB (cR (cL (cR (cR (cR (bodyOf Tryz.f159)))))))) (.a) := HintOk.n1 (Q := True) (by kernel_rfl) trivial
 have h := loopS (kin := ([], [3, 4, 5, 12])) (kout := gq159.ko1) (sh := gq159.sh1) (F := gq159.G1) (ops_ok (hE.gv _)) (by kernel_rfl) hh (fun _ _ _ => rfl) (fun n R t K => by kernel_rfl) fuel
 exact HintOk.n1 (c := (cB (cR (cL (cR (cR (cR (bodyOf Tryz.f159)))))))) (h := .s (gq159.S1)) (P := Tryz.prog) (E := gq159.E) (by kernel_rfl) h
theorem gq159.hok (hE : EOk Tryz.prog (gq159.E)) : HintOk Tryz.prog gq159.E (bodyOf Tryz.f159) (.n (.a) (.n (.a) (.n (.a) (.n (.n (.a) (.b (.s (gq159.S1)))) (.a))))) := HintOk.n1 (Q := (True) ∧ ((True) ∧ ((True) ∧ (((True) ∧ (SumOk Tryz.prog gq159.E (cB (cR (cL (cR (cR (cR (bodyOf Tryz.f159))))))) (gq159.S1))) ∧ (True))))) (by kernel_rfl) ⟨trivial, ⟨trivial, ⟨trivial, ⟨⟨trivial, (gq159.ok1 hE)⟩, trivial⟩⟩⟩⟩
theorem gq159.hE : EOk Tryz.prog (gq159.E) := EOk.of ttOk (⟨i_hash.fok, trivial⟩)
theorem gq159.fok : FOk Tryz.prog 159 gq159.fi :=
 fokS (E := gq159.E) (wy := ⟨[[some ((.int .i64), true)]], [[]], []⟩) (h := (fun gs => .n (.a) (.n (.a) (.n (.a) (.n (.n (.a) (.b (.s (gq159.S1)))) (.a)))))) (G := fun t g => gq159.F (fun y0 => g y0) t.1) (by kernel_rfl) gq159.hE Tryz.func159 (by kernel_rfl) rfl (Nat.le_refl _) (fun t => HintOk.n1 (by kernel_rfl) (gq159.hok gq159.hE)) (fun t g => gq159.F_nat g (fun y0 => some y0) _) (fun t => by kernel_rfl)
def gq72.l1 {R : Type} (kke0 : Int → Int → List ByteArray → List ByteArray → Option R) : Nat → ByteArray → Int → Int → Int → Int → Int → List Int → List ByteArray → List ByteArray → Option R
 | 0, _, _, _, _, _, _, _, _, _ => none
 | n + 1, seed, index, i, i1, i2, out, l, l1, l2 =>
  cond (decide (i1 < i)) (
   grd (gIx i1 (List.length l)) <|
   (gq161 seed index i1).bind fun r =>
   (gq160 r (0 : Int) (rdE (.int .i64 : Kd) l (Int.toNat i1))).bind fun r1 =>
   grd (gRm (((List.length l1) + (List.length [r1])) * 16)) <|
   gq72.l1 kke0 n seed index i (IntKind.wrap .i64 (i1 + (1 : Int))) i2 out l (l1 ++ [r1]) l2) (kke0 i2 out l1 l2)
theorem gq72.l1_nat {R S : Type} (g : R → Option S) (kke0 : Int → Int → List ByteArray → List ByteArray → Option R) : ∀ n seed index i i1 i2 out l l1 l2, gq72.l1 (fun y0 y1 y2 y3 => (kke0 y0 y1 y2 y3).bind g) n seed index i i1 i2 out l l1 l2 = (gq72.l1 kke0 n seed index i i1 i2 out l l1 l2).bind g := by
 intro n
 induction n with
 | zero => intros; rfl
 | succ n ih => intros; simp only [gq72.l1, grd_bind, cnd_bind, bnd_bind, non_bind, ih]
def gq72.F {R : Type} (kk : Int → List ByteArray → List ByteArray → Option R) (seed : ByteArray) (index : Int) (msg : ByteArray) : Option R :=
 (gq112 seed).bind fun r =>
 (gq120 fuel r index).bind fun r1 =>
 (gq159 msg).bind fun r2 =>
 gq72.l1 (fun i out l l1 => kk out l l1) fuel seed index (List.length r2 : Int) (0 : Int) (0 : Int) index r2 [] r1
theorem gq72.F_nat {R S : Type} (g : R → Option S) (kk : Int → List ByteArray → List ByteArray → Option R) (seed index msg) : gq72.F (fun y0 y1 y2 => (kk y0 y1 y2).bind g) seed index msg = (gq72.F kk seed index msg).bind g := by
 simp only [gq72.F, grd_bind, cnd_bind, bnd_bind, non_bind, ← gq72.l1_nat]
def gq72 (seed : ByteArray) (index : Int) (msg : ByteArray) : Option (Int × List ByteArray × List ByteArray) := gq72.F (fun y0 y1 y2 => some (y0, y1, y2)) seed index msg
def gq72.out : (Int × List ByteArray × List ByteArray) → CRes := fun a => ⟨encL SV.enc [.agg [.int .i64, .own [] .str true, .own [] .str true]] ((a.1, a.2.1, a.2.2, ()), ()), [encL SC.enc [] (), encL SC.enc [] (), encL SC.enc [] ()]⟩
def gq72.ps : List PS := [.val [none], .val [none], .val [none]]
def gq72.sA : List SA := [.v (.one (.str)), .v (.one (.int .i64)), .v (.one (.str))]
def gq72.fi : FI := FIs gq72.sA (Int × List ByteArray × List ByteArray) (fun t => gq72 t.1 t.2.1 t.2.2.1) gq72.out gq72.ps
def gq72.E : Env := ⟨tt, lkF [(112, gq112.fi), (120, gq120.fi fuel), (159, gq159.fi), (160, gq160.fi), (161, gq161.fi)], 37, 0, [], [], []⟩
def gq72.sh1 : SK := ⟨[.v (.one (.str)), .v (.one (.int .i64)), .v (.one (.bptr 0 0)), .v (.one (.bptr 1 0)), .v (.one (.slo 2)), .v (.one (.int .i64)), .v (.one (.int .i64))], [.box [.int .i64, .nil, .nil], .box [.int .i64, .slo 3, .slo 4], .arr (.int .i64) [] true, .arr .str [] true, .arr .str [] true]⟩
def gq72.sh1e0 : SK := ⟨[.v (.one (.bptr 0 0)), .v (.one (.bptr 1 0))], [.box [.int .i64, .nil, .nil], .box [.int .i64, .slo 2, .slo 3], .arr .str [] true, .arr .str [] true]⟩
def gq72.ko1 : Ex → List CastAt × List Nat
 | .nrm => ([], [])
 | .ret => ([], [])
 | .ext i => cond (Nat.beq i 0) ([], [6, 7]) ([], [])
def gq72.G1 (n : Nat) (R : Type) (t : gq72.sh1.T) (K : Ex → Kp → Option R) : Option R := gq72.l1 (fun y0 y1 y2 y3 => K (.ext 0) (SK.enc gq72.sh1e0 (((), (), ()), ((y0, (), (), ()), (y1, (), (), ()), y2, y3, ())))) n t.1.1 t.1.2.1 t.1.2.2.2.2.2.1 t.1.2.2.2.2.2.2.1 t.2.1.1 t.2.2.1.1 t.2.2.2.1 t.2.2.2.2.1 t.2.2.2.2.2.1
def gq72.S1 : Sum := ⟨([⟨7, true, 1, .own .str⟩], [0, 1, 6, 7, 17, 18, 19]), sumF gq72.sh1 (gq72.G1 fuel), gq72.ko1⟩
theorem gq72.ok1 (hE : EOk Tryz.prog (gq72.E)) : SumOk Tryz.prog gq72.E (cB (cR (cL (cR (cR (bodyOf Tryz.f72)))))) (gq72.S1) := by
 have hh : HintOk Tryz.prog gq72.E (cB (cB (cR (cL (cR (cR (bodyOf Tryz.f72))))))) (.a) := HintOk.n1 (Q := True) (by kernel_rfl) trivial
 have h := loopS (kin := ([⟨7, true, 1, .own .str⟩], [0, 1, 6, 7, 17, 18, 19])) (kout := gq72.ko1) (sh := gq72.sh1) (F := gq72.G1) (ops_ok (hE.gv _)) (by kernel_rfl) hh (fun _ _ _ => rfl) (fun n R t K => by kernel_rfl) fuel
 exact HintOk.n1 (c := (cB (cR (cL (cR (cR (bodyOf Tryz.f72))))))) (h := .s (gq72.S1)) (P := Tryz.prog) (E := gq72.E) (by kernel_rfl) h
theorem gq72.hok (hE : EOk Tryz.prog (gq72.E)) : HintOk Tryz.prog gq72.E (bodyOf Tryz.f72) (.n (.a) (.n (.a) (.n (.n (.a) (.b (.s (gq72.S1)))) (.a)))) := HintOk.n1 (Q := (True) ∧ ((True) ∧ (((True) ∧ (SumOk Tryz.prog gq72.E (cB (cR (cL (cR (cR (bodyOf Tryz.f72)))))) (gq72.S1))) ∧ (True)))) (by kernel_rfl) ⟨trivial, ⟨trivial, ⟨⟨trivial, (gq72.ok1 hE)⟩, trivial⟩⟩⟩
theorem gq72.hE : EOk Tryz.prog (gq72.E) := EOk.of ttOk (⟨gq112.fok, ⟨gq120.fok fuel, ⟨gq159.fok, ⟨gq160.fok, ⟨gq161.fok, trivial⟩⟩⟩⟩⟩)
theorem gq72.fok : FOk Tryz.prog 72 gq72.fi :=
 fokS (E := gq72.E) (wy := ⟨[[none, some (.str, true), some (.str, true)]], [[], [], []], []⟩) (h := (fun gs => .n (.a) (.n (.a) (.n (.n (.a) (.b (.s (gq72.S1)))) (.a))))) (G := fun t g => gq72.F (fun y0 y1 y2 => g (y0, y1, y2)) t.1 t.2.1 t.2.2.1) (by kernel_rfl) gq72.hE Tryz.func72 (by kernel_rfl) rfl (Nat.le_refl _) (fun t => HintOk.n1 (by kernel_rfl) (gq72.hok gq72.hE)) (fun t g => gq72.F_nat g (fun y0 y1 y2 => some (y0, y1, y2)) _ _ _) (fun t => by kernel_rfl)
def gq182.F {R : Type} (kk : Bool → Option R) (t_ : ByteArray) : Option R :=
 kk (decide ((ByteArray.size t_ : Int) > (65536 : Int)))
theorem gq182.F_nat {R S : Type} (g : R → Option S) (kk : Bool → Option R) (t_) : gq182.F (fun y0 => (kk y0).bind g) t_ = (gq182.F kk t_).bind g := by
 simp only [gq182.F, grd_bind, cnd_bind, bnd_bind, non_bind]
def gq182 (t_ : ByteArray) : Option Bool := gq182.F (fun y0 => some y0) t_
def gq182.out : Bool → CRes := fun a => ⟨encL SV.enc [.one (.bool)] (a, ()), [encL SC.enc [] ()]⟩
def gq182.ps : List PS := [.val [none]]
def gq182.sA : List SA := [.v (.one (.str))]
def gq182.fi : FI := FIs gq182.sA (Bool) (fun t => gq182 t.1) gq182.out gq182.ps
def gq182.E : Env := ⟨tt, lkF [], 6, 0, [], [], []⟩
theorem gq182.hok (hE : EOk Tryz.prog (gq182.E)) : HintOk Tryz.prog gq182.E (bodyOf Tryz.f182) (.a) := HintOk.n1 (Q := True) (by kernel_rfl) trivial
theorem gq182.hE : EOk Tryz.prog (gq182.E) := EOk.of ttOk (trivial)
theorem gq182.fok : FOk Tryz.prog 182 gq182.fi :=
 fokS (E := gq182.E) (wy := ⟨[[none]], [[]], []⟩) (h := (fun gs => .a)) (G := fun t g => gq182.F (fun y0 => g y0) t.1) (by kernel_rfl) gq182.hE Tryz.func182 (by kernel_rfl) rfl (Nat.le_refl _) (fun t => HintOk.n1 (by kernel_rfl) (gq182.hok gq182.hE)) (fun t g => gq182.F_nat g (fun y0 => some y0) _) (fun t => by kernel_rfl)
def gq96.F {R : Type} (kk : Bool → Option R) (texts : List ByteArray) : Option R :=
 (gq181 texts (fun t => (gq182 t.1).bind fun a => some (a, ()))).bind fun r =>
 kk (!r)
theorem gq96.F_nat {R S : Type} (g : R → Option S) (kk : Bool → Option R) (texts) : gq96.F (fun y0 => (kk y0).bind g) texts = (gq96.F kk texts).bind g := by
 simp only [gq96.F, grd_bind, cnd_bind, bnd_bind, non_bind]
def gq96 (texts : List ByteArray) : Option Bool := gq96.F (fun y0 => some y0) texts
def gq96.out : Bool → CRes := fun a => ⟨encL SV.enc [.one (.bool)] (a, ()), [encL SC.enc [] ()]⟩
def gq96.ps : List PS := [.val [some (.str, false)]]
def gq96.sA : List SA := [.v (.one (.slv [] .str))]
def gq96.fi : FI := FIs gq96.sA (Bool) (fun t => gq96 t.1) gq96.out gq96.ps
def gq96.E : Env := ⟨tt, lkF [(181, gq181.fi), (182, gq182.fi)], 6, 0, [], [], []⟩
theorem gq96.hok (hE : EOk Tryz.prog (gq96.E)) : HintOk Tryz.prog gq96.E (bodyOf Tryz.f96) (.a) := HintOk.n1 (Q := True) (by kernel_rfl) trivial
theorem gq96.hE : EOk Tryz.prog (gq96.E) := EOk.of ttOk (⟨gq181.fok, ⟨gq182.fok, trivial⟩⟩)
theorem gq96.fok : FOk Tryz.prog 96 gq96.fi :=
 fokS (E := gq96.E) (wy := ⟨[[none]], [[]], []⟩) (h := (fun gs => .a)) (G := fun t g => gq96.F (fun y0 => g y0) t.1) (by kernel_rfl) gq96.hE Tryz.func96 (by kernel_rfl) rfl (Nat.le_refl _) (fun t => HintOk.n1 (by kernel_rfl) (gq96.hok gq96.hE)) (fun t g => gq96.F_nat g (fun y0 => some y0) _) (fun t => by kernel_rfl)
def gq97.F {R : Type} (kk : Int → Option R) (seed : ByteArray) (index : Int) : Option R :=
 (gq96 [seed]).bind fun r =>
 cond (!r) (kk (2 : Int)) (
  (gq111 [seed]).bind fun r1 =>
  cond (!r1) (kk (1 : Int)) (
   (gq92 index (0 : Int) (3 : Int)).bind fun r2 =>
   cond (!r2) (kk (4 : Int)) (kk (0 : Int))))
theorem gq97.F_nat {R S : Type} (g : R → Option S) (kk : Int → Option R) (seed index) : gq97.F (fun y0 => (kk y0).bind g) seed index = (gq97.F kk seed index).bind g := by
 simp only [gq97.F, grd_bind, cnd_bind, bnd_bind, non_bind]
def gq97 (seed : ByteArray) (index : Int) : Option Int := gq97.F (fun y0 => some y0) seed index
def gq97.out : Int → CRes := fun a => ⟨encL SV.enc [.one (.int .i64)] (a, ()), [encL SC.enc [] (), encL SC.enc [] ()]⟩
def gq97.ps : List PS := [.val [none], .val [none]]
def gq97.sA : List SA := [.v (.one (.str)), .v (.one (.int .i64))]
def gq97.fi : FI := FIs gq97.sA (Int) (fun t => gq97 t.1 t.2.1) gq97.out gq97.ps
def gq97.E : Env := ⟨tt, lkF [(92, gq92.fi), (96, gq96.fi), (111, gq111.fi)], 19, 0, [], [], []⟩
theorem gq97.hok (hE : EOk Tryz.prog (gq97.E)) : HintOk Tryz.prog gq97.E (bodyOf Tryz.f97) (.a) := HintOk.n1 (Q := True) (by kernel_rfl) trivial
theorem gq97.hE : EOk Tryz.prog (gq97.E) := EOk.of ttOk (⟨gq92.fok, ⟨gq96.fok, ⟨gq111.fok, trivial⟩⟩⟩)
theorem gq97.fok : FOk Tryz.prog 97 gq97.fi :=
 fokS (E := gq97.E) (wy := ⟨[[none]], [[], []], []⟩) (h := (fun gs => .a)) (G := fun t g => gq97.F (fun y0 => g y0) t.1 t.2.1) (by kernel_rfl) gq97.hE Tryz.func97 (by kernel_rfl) rfl (Nat.le_refl _) (fun t => HintOk.n1 (by kernel_rfl) (gq97.hok gq97.hE)) (fun t g => gq97.F_nat g (fun y0 => some y0) _ _) (fun t => by kernel_rfl)
def gq31.F {R : Type} (kk : Int → List ByteArray → List ByteArray → Int → Option R) (seed : ByteArray) (index : Int) (msg : ByteArray) : Option R :=
 (gq96 [msg]).bind fun r =>
 cond (!r) (kk (0 : Int) [] [] (2 : Int)) (
  (gq97 seed index).bind fun r1 =>
  cond (r1 != (0 : Int)) (kk (0 : Int) [] [] r1) (
   (gq72 seed index msg).bind fun r2 =>
   kk r2.1 r2.2.1 r2.2.2 (0 : Int)))
theorem gq31.F_nat {R S : Type} (g : R → Option S) (kk : Int → List ByteArray → List ByteArray → Int → Option R) (seed index msg) : gq31.F (fun y0 y1 y2 y3 => (kk y0 y1 y2 y3).bind g) seed index msg = (gq31.F kk seed index msg).bind g := by
 simp only [gq31.F, grd_bind, cnd_bind, bnd_bind, non_bind]
def gq31 (seed : ByteArray) (index : Int) (msg : ByteArray) : Option (Int × List ByteArray × List ByteArray × Int) := gq31.F (fun y0 y1 y2 y3 => some (y0, y1, y2, y3)) seed index msg
def gq31.out : (Int × List ByteArray × List ByteArray × Int) → CRes := fun a => ⟨encL SV.enc [.agg [.int .i64, .own [] .str true, .own [] .str true], .one (.int .i64)] ((a.1, a.2.1, a.2.2.1, ()), a.2.2.2, ()), [encL SC.enc [] (), encL SC.enc [] (), encL SC.enc [] ()]⟩
def gq31.ps : List PS := [.val [none], .val [none], .val [none]]
def gq31.sA : List SA := [.v (.one (.str)), .v (.one (.int .i64)), .v (.one (.str))]
def gq31.fi : FI := FIs gq31.sA (Int × List ByteArray × List ByteArray × Int) (fun t => gq31 t.1 t.2.1 t.2.2.1) gq31.out gq31.ps
def gq31.E : Env := ⟨tt, lkF [(72, gq72.fi), (96, gq96.fi), (97, gq97.fi)], 25, 0, [], [], []⟩
theorem gq31.hok (hE : EOk Tryz.prog (gq31.E)) : HintOk Tryz.prog gq31.E (bodyOf Tryz.f31) (.a) := HintOk.n1 (Q := True) (by kernel_rfl) trivial
theorem gq31.hE : EOk Tryz.prog (gq31.E) := EOk.of ttOk (⟨gq72.fok, ⟨gq96.fok, ⟨gq97.fok, trivial⟩⟩⟩)
theorem gq31.fok : FOk Tryz.prog 31 gq31.fi :=
 fokS (E := gq31.E) (wy := ⟨[[none, some (.str, true), some (.str, true)], [none]], [[], [], []], []⟩) (h := (fun gs => .a)) (G := fun t g => gq31.F (fun y0 y1 y2 y3 => g (y0, y1, y2, y3)) t.1 t.2.1 t.2.2.1) (by kernel_rfl) gq31.hE Tryz.func31 (by kernel_rfl) rfl (Nat.le_refl _) (fun t => HintOk.n1 (by kernel_rfl) (gq31.hok gq31.hE)) (fun t g => gq31.F_nat g (fun y0 y1 y2 y3 => some (y0, y1, y2, y3)) _ _ _) (fun t => by kernel_rfl)
def gq116.F {R : Type} (kk : Int → ByteArray → ByteArray → Option R) (t_Key : ByteArray) (t_Has : Bool) (t_Size : Int) (t_Log : ByteArray) (t_Map : ByteArray) : Option R :=
 kk t_Size t_Log t_Map
theorem gq116.F_nat {R S : Type} (g : R → Option S) (kk : Int → ByteArray → ByteArray → Option R) (t_Key t_Has t_Size t_Log t_Map) : gq116.F (fun y0 y1 y2 => (kk y0 y1 y2).bind g) t_Key t_Has t_Size t_Log t_Map = (gq116.F kk t_Key t_Has t_Size t_Log t_Map).bind g := by
 simp only [gq116.F, grd_bind, cnd_bind, bnd_bind, non_bind]
def gq116 (t_Key : ByteArray) (t_Has : Bool) (t_Size : Int) (t_Log : ByteArray) (t_Map : ByteArray) : Option (Int × ByteArray × ByteArray) := gq116.F (fun y0 y1 y2 => some (y0, y1, y2)) t_Key t_Has t_Size t_Log t_Map
def gq116.out : (Int × ByteArray × ByteArray) → CRes := fun a => ⟨encL SV.enc [.agg [.int .i64, .str, .str]] ((a.1, a.2.1, a.2.2, ()), ()), [encL SC.enc [] ()]⟩
def gq116.ps : List PS := [.val [none, none, none, none, none]]
def gq116.sA : List SA := [.v (.agg [.str, .bool, .int .i64, .str, .str])]
def gq116.fi : FI := FIs gq116.sA (Int × ByteArray × ByteArray) (fun t => gq116 t.1.1 t.1.2.1 t.1.2.2.1 t.1.2.2.2.1 t.1.2.2.2.2.1) gq116.out gq116.ps
def gq116.E : Env := ⟨tt, lkF [], 10, 0, [], [], []⟩
theorem gq116.hok (hE : EOk Tryz.prog (gq116.E)) : HintOk Tryz.prog gq116.E (bodyOf Tryz.f116) (.a) := HintOk.n1 (Q := True) (by kernel_rfl) trivial
theorem gq116.hE : EOk Tryz.prog (gq116.E) := EOk.of ttOk (trivial)
theorem gq116.fok : FOk Tryz.prog 116 gq116.fi :=
 fokS (E := gq116.E) (wy := ⟨[[none, none, none]], [[]], []⟩) (h := (fun gs => .a)) (G := fun t g => gq116.F (fun y0 y1 y2 => g (y0, y1, y2)) t.1.1 t.1.2.1 t.1.2.2.1 t.1.2.2.2.1 t.1.2.2.2.2.1) (by kernel_rfl) gq116.hE Tryz.func116 (by kernel_rfl) rfl (Nat.le_refl _) (fun t => HintOk.n1 (by kernel_rfl) (gq116.hok gq116.hE)) (fun t g => gq116.F_nat g (fun y0 y1 y2 => some (y0, y1, y2)) _ _ _ _ _) (fun t => by kernel_rfl)
def gq43.F {R : Type} (kk : Bool → Option R) (t_Key : ByteArray) (t_Has : Bool) (t_Size : Int) (t_Log : ByteArray) (t_Map : ByteArray) : Option R :=
 (gq111 [t_Key]).bind fun r =>
 cond (!r) (kk false) (
  cond (!t_Has) (
   (gq116 t_Key t_Has t_Size t_Log t_Map).bind fun r1 =>
   kk ((r1.1 == (0 : Int)) && ((sEq r1.2.1 ByteArray.empty) && (sEq r1.2.2 ByteArray.empty)))) (
   (gq116 t_Key t_Has t_Size t_Log t_Map).bind fun r2 =>
   (gq95 r2.1 r2.2.1 r2.2.2).bind fun r3 =>
   kk r3))
theorem gq43.F_nat {R S : Type} (g : R → Option S) (kk : Bool → Option R) (t_Key t_Has t_Size t_Log t_Map) : gq43.F (fun y0 => (kk y0).bind g) t_Key t_Has t_Size t_Log t_Map = (gq43.F kk t_Key t_Has t_Size t_Log t_Map).bind g := by
 simp only [gq43.F, grd_bind, cnd_bind, bnd_bind, non_bind]
def gq43 (t_Key : ByteArray) (t_Has : Bool) (t_Size : Int) (t_Log : ByteArray) (t_Map : ByteArray) : Option Bool := gq43.F (fun y0 => some y0) t_Key t_Has t_Size t_Log t_Map
def gq43.out : Bool → CRes := fun a => ⟨encL SV.enc [.one (.bool)] (a, ()), [encL SC.enc [] ()]⟩
def gq43.ps : List PS := [.val [none, none, none, none, none]]
def gq43.sA : List SA := [.v (.agg [.str, .bool, .int .i64, .str, .str])]
def gq43.fi : FI := FIs gq43.sA (Bool) (fun t => gq43 t.1.1 t.1.2.1 t.1.2.2.1 t.1.2.2.2.1 t.1.2.2.2.2.1) gq43.out gq43.ps
def gq43.E : Env := ⟨tt, lkF [(95, gq95.fi), (111, gq111.fi), (116, gq116.fi)], 18, 0, [], [], []⟩
theorem gq43.hok (hE : EOk Tryz.prog (gq43.E)) : HintOk Tryz.prog gq43.E (bodyOf Tryz.f43) (.a) := HintOk.n1 (Q := True) (by kernel_rfl) trivial
theorem gq43.hE : EOk Tryz.prog (gq43.E) := EOk.of ttOk (⟨gq95.fok, ⟨gq111.fok, ⟨gq116.fok, trivial⟩⟩⟩)
theorem gq43.fok : FOk Tryz.prog 43 gq43.fi :=
 fokS (E := gq43.E) (wy := ⟨[[none]], [[]], []⟩) (h := (fun gs => .a)) (G := fun t g => gq43.F (fun y0 => g y0) t.1.1 t.1.2.1 t.1.2.2.1 t.1.2.2.2.1 t.1.2.2.2.2.1) (by kernel_rfl) gq43.hE Tryz.func43 (by kernel_rfl) rfl (Nat.le_refl _) (fun t => HintOk.n1 (by kernel_rfl) (gq43.hok gq43.hE)) (fun t g => gq43.F_nat g (fun y0 => some y0) _ _ _ _ _) (fun t => by kernel_rfl)
def gq98.j1 {R : Type} (kkn : List ByteArray → List ByteArray → Bool → Option R) (proof : List ByteArray) (hashes : List ByteArray) : Option R :=
 (gq178 proof).bind fun r =>
 cond (!r) (kkn proof hashes true) (
  (gq96 hashes).bind fun r1 =>
  kkn proof hashes (!r1))
theorem gq98.j1_nat {R S : Type} (g : R → Option S) (kkn : List ByteArray → List ByteArray → Bool → Option R) (proof hashes) : gq98.j1 (fun y0 y1 y2 => (kkn y0 y1 y2).bind g) proof hashes = (gq98.j1 kkn proof hashes).bind g := by
 simp only [gq98.j1, grd_bind, cnd_bind, bnd_bind, non_bind]
def gq98.F {R : Type} (kk : Int → Option R) (proof : List ByteArray) (hashes : List ByteArray) : Option R :=
 gq98.j1 (fun proof1 hashes1 b =>
  cond (b) (kk (2 : Int)) (
   (gq111 hashes1).bind fun r =>
   cond (!r) (kk (1 : Int)) (
    cond (decide ((List.length proof1 : Int) > (64 : Int))) (kk (1 : Int)) (
     (gq111 proof1).bind fun r1 =>
     cond (!r1) (kk (1 : Int)) (kk (0 : Int)))))) proof hashes
theorem gq98.F_nat {R S : Type} (g : R → Option S) (kk : Int → Option R) (proof hashes) : gq98.F (fun y0 => (kk y0).bind g) proof hashes = (gq98.F kk proof hashes).bind g := by
 simp only [gq98.F, grd_bind, cnd_bind, bnd_bind, non_bind, ← gq98.j1_nat]
def gq98 (proof : List ByteArray) (hashes : List ByteArray) : Option Int := gq98.F (fun y0 => some y0) proof hashes
def gq98.out : Int → CRes := fun a => ⟨encL SV.enc [.one (.int .i64)] (a, ()), [encL SC.enc [] (), encL SC.enc [] ()]⟩
def gq98.ps : List PS := [.val [some (.str, false)], .val [some (.str, false)]]
def gq98.sA : List SA := [.v (.one (.slv [] .str)), .v (.one (.slv [] .str))]
def gq98.fi : FI := FIs gq98.sA (Int) (fun t => gq98 t.1 t.2.1) gq98.out gq98.ps
def gq98.E : Env := ⟨tt, lkF [(96, gq96.fi), (111, gq111.fi), (178, gq178.fi)], 28, 0, [], [], []⟩
def gq98.sh1 : SK := ⟨[.v (.one (.slv [1] .str)), .v (.one (.slv [2] .str))], []⟩
def gq98.sh1n : SK := ⟨[.v (.one (.slv [1] .str)), .v (.one (.slv [2] .str)), .v (.one (.bool))], []⟩
def gq98.ko1 : Ex → List CastAt × List Nat
 | .nrm => ([], [0, 1, 5])
 | .ret => ([], [])
 | .ext i => ([], [])
def gq98.G1 (R : Type) (t : gq98.sh1.T) (K : Ex → Kp → Option R) : Option R := gq98.j1 (fun y0 y1 y2 => K .nrm (SK.enc gq98.sh1n ((y0, y1, y2, ()), ()))) t.1.1 t.1.2.1
def gq98.S1 : Sum := ⟨([], [0, 1]), sumF gq98.sh1 (gq98.G1), gq98.ko1⟩
theorem gq98.ok1 (hE : EOk Tryz.prog (gq98.E)) : SumOk Tryz.prog gq98.E (cL (cB (cL (cR (bodyOf Tryz.f98))))) (gq98.S1) := by
 have hh : HintOk Tryz.prog gq98.E (cL (cB (cL (cR (bodyOf Tryz.f98))))) (.a) := HintOk.n1 (Q := True) (by kernel_rfl) trivial
 exact sumS (kin := ([], [0, 1])) (kout := gq98.ko1) (sh := gq98.sh1) (F := gq98.G1) (ops_ok (hE.gv _)) (by kernel_rfl) hh (fun R t K => by kernel_rfl)
theorem gq98.hok (hE : EOk Tryz.prog (gq98.E)) : HintOk Tryz.prog gq98.E (bodyOf Tryz.f98) (.n (.a) (.n (.b (.n (.s (gq98.S1)) (.a))) (.a))) := HintOk.n1 (Q := (True) ∧ (((SumOk Tryz.prog gq98.E (cL (cB (cL (cR (bodyOf Tryz.f98))))) (gq98.S1)) ∧ (True)) ∧ (True))) (by kernel_rfl) ⟨trivial, ⟨⟨(gq98.ok1 hE), trivial⟩, trivial⟩⟩
theorem gq98.hE : EOk Tryz.prog (gq98.E) := EOk.of ttOk (⟨gq96.fok, ⟨gq111.fok, ⟨gq178.fok, trivial⟩⟩⟩)
theorem gq98.fok : FOk Tryz.prog 98 gq98.fi :=
 fokS (E := gq98.E) (wy := ⟨[[none]], [[], []], []⟩) (h := (fun gs => .n (.a) (.n (.b (.n (.s (gq98.S1)) (.a))) (.a)))) (G := fun t g => gq98.F (fun y0 => g y0) t.1 t.2.1) (by kernel_rfl) gq98.hE Tryz.func98 (by kernel_rfl) rfl (Nat.le_refl _) (fun t => HintOk.n1 (by kernel_rfl) (gq98.hok gq98.hE)) (fun t g => gq98.F_nat g (fun y0 => some y0) _ _) (fun t => by kernel_rfl)
def gq269.F {R : Type} (kk : ByteArray → List ByteArray → Bool → List ByteArray → Option R) (p_proof : List ByteArray) (p_bad : Bool) (p_steps : List ByteArray) (left : ByteArray) (right : ByteArray) : Option R :=
 grd (gCat (⟨#[1]⟩ : ByteArray) left) <|
 grd (gCat ((⟨#[1]⟩ : ByteArray) ++ left) right) <|
 grd (gRm (((List.length p_steps) + (List.length ([((⟨#[1]⟩ : ByteArray) ++ left) ++ right]))) * 16)) <|
 (gq180 left right).bind fun r =>
 kk r p_proof p_bad (p_steps ++ ([((⟨#[1]⟩ : ByteArray) ++ left) ++ right]))
theorem gq269.F_nat {R S : Type} (g : R → Option S) (kk : ByteArray → List ByteArray → Bool → List ByteArray → Option R) (p_proof p_bad p_steps left right) : gq269.F (fun y0 y1 y2 y3 => (kk y0 y1 y2 y3).bind g) p_proof p_bad p_steps left right = (gq269.F kk p_proof p_bad p_steps left right).bind g := by
 simp only [gq269.F, grd_bind, cnd_bind, bnd_bind, non_bind]
def gq269 (p_proof : List ByteArray) (p_bad : Bool) (p_steps : List ByteArray) (left : ByteArray) (right : ByteArray) : Option (ByteArray × List ByteArray × Bool × List ByteArray) := gq269.F (fun y0 y1 y2 y3 => some (y0, y1, y2, y3)) p_proof p_bad p_steps left right
def gq269.out : (ByteArray × List ByteArray × Bool × List ByteArray) → CRes := fun a => ⟨encL SV.enc [.one (.str)] (a.1, ()), [encL SC.enc [.slv [1] .str, .bool, .own [] .str true] (a.2.1, a.2.2.1, a.2.2.2, ()), encL SC.enc [] (), encL SC.enc [] ()]⟩
def gq269.ps : List PS := [.ptr [some (.str, false), none, some (.str, true)], .val [none], .val [none]]
def gq269.sA : List SA := [.ptr [.slv [] .str, .bool, .own [] .str true], .v (.one (.str)), .v (.one (.str))]
def gq269.fi : FI := FIs gq269.sA (ByteArray × List ByteArray × Bool × List ByteArray) (fun t => gq269 t.1.1 t.1.2.1 t.1.2.2.1 t.2.1 t.2.2.1) gq269.out gq269.ps
def gq269.E : Env := ⟨tt, lkF [(180, gq180.fi)], 23, 1, [], [], []⟩
theorem gq269.hok (hE : EOk Tryz.prog (gq269.E)) : HintOk Tryz.prog gq269.E (bodyOf Tryz.f269) (.a) := HintOk.n1 (Q := True) (by kernel_rfl) trivial
theorem gq269.hE : EOk Tryz.prog (gq269.E) := EOk.of ttOk (⟨gq180.fok, trivial⟩)
theorem gq269.fok : FOk Tryz.prog 269 gq269.fi :=
 fokS (E := gq269.E) (wy := ⟨[[none]], [[some (.str, false), none, some (.str, true)], [], []], []⟩) (h := (fun gs => .a)) (G := fun t g => gq269.F (fun y0 y1 y2 y3 => g (y0, y1, y2, y3)) t.1.1 t.1.2.1 t.1.2.2.1 t.2.1 t.2.2.1) (by kernel_rfl) gq269.hE Tryz.func269 (by kernel_rfl) rfl (Nat.le_refl _) (fun t => HintOk.n1 (by kernel_rfl) (gq269.hok gq269.hE)) (fun t g => gq269.F_nat g (fun y0 y1 y2 y3 => some (y0, y1, y2, y3)) _ _ _ _ _) (fun t => by kernel_rfl)
def gq270.F {R : Type} (kk : ByteArray → List ByteArray → Bool → List ByteArray → Option R) (p_proof : List ByteArray) (p_bad : Bool) (p_steps : List ByteArray) : Option R :=
 cond ((List.length p_proof : Int) == (0 : Int)) (kk ByteArray.empty p_proof true p_steps) (
  grd (gIx (0 : Int) (List.length p_proof)) <|
  grd (gSl (1 : Int) (List.length p_proof : Int) (List.length p_proof)) <|
  kk (rdE (.str : Kd) p_proof (Int.toNat (0 : Int))) (sub p_proof (1 : Int) (List.length p_proof : Int)) p_bad p_steps)
theorem gq270.F_nat {R S : Type} (g : R → Option S) (kk : ByteArray → List ByteArray → Bool → List ByteArray → Option R) (p_proof p_bad p_steps) : gq270.F (fun y0 y1 y2 y3 => (kk y0 y1 y2 y3).bind g) p_proof p_bad p_steps = (gq270.F kk p_proof p_bad p_steps).bind g := by
 simp only [gq270.F, grd_bind, cnd_bind, bnd_bind, non_bind]
def gq270 (p_proof : List ByteArray) (p_bad : Bool) (p_steps : List ByteArray) : Option (ByteArray × List ByteArray × Bool × List ByteArray) := gq270.F (fun y0 y1 y2 y3 => some (y0, y1, y2, y3)) p_proof p_bad p_steps
def gq270.out : (ByteArray × List ByteArray × Bool × List ByteArray) → CRes := fun a => ⟨encL SV.enc [.one (.str)] (a.1, ()), [encL SC.enc [.slv [1] .str, .bool, .own [] .str true] (a.2.1, a.2.2.1, a.2.2.2, ())]⟩
def gq270.ps : List PS := [.ptr [some (.str, false), none, some (.str, true)]]
def gq270.sA : List SA := [.ptr [.slv [] .str, .bool, .own [] .str true]]
def gq270.fi : FI := FIs gq270.sA (ByteArray × List ByteArray × Bool × List ByteArray) (fun t => gq270 t.1.1 t.1.2.1 t.1.2.2.1) gq270.out gq270.ps
def gq270.E : Env := ⟨tt, lkF [], 28, 1, [], [], []⟩
theorem gq270.hok (hE : EOk Tryz.prog (gq270.E)) : HintOk Tryz.prog gq270.E (bodyOf Tryz.f270) (.a) := HintOk.n1 (Q := True) (by kernel_rfl) trivial
theorem gq270.hE : EOk Tryz.prog (gq270.E) := EOk.of ttOk (trivial)
theorem gq270.fok : FOk Tryz.prog 270 gq270.fi :=
 fokS (E := gq270.E) (wy := ⟨[[none]], [[some (.str, false), none, some (.str, true)]], []⟩) (h := (fun gs => .a)) (G := fun t g => gq270.F (fun y0 y1 y2 y3 => g (y0, y1, y2, y3)) t.1.1 t.1.2.1 t.1.2.2.1) (by kernel_rfl) gq270.hE Tryz.func270 (by kernel_rfl) rfl (Nat.le_refl _) (fun t => HintOk.n1 (by kernel_rfl) (gq270.hok gq270.hE)) (fun t g => gq270.F_nat g (fun y0 y1 y2 y3 => some (y0, y1, y2, y3)) _ _ _) (fun t => by kernel_rfl)
def gq203.F {R : Type} (rc : List ByteArray → Bool → List ByteArray → ByteArray → Int → Int → Option (ByteArray × List ByteArray × Bool × List ByteArray)) (kk : ByteArray → List ByteArray → Bool → List ByteArray → Option R) (p_proof : List ByteArray) (p_bad : Bool) (p_steps : List ByteArray) (leaf : ByteArray) (at_ : Int) (size : Int) : Option R :=
 cond (decide (size ≤ (1 : Int))) (kk leaf p_proof p_bad p_steps) (
  (gq179 size).bind fun r =>
  cond (decide (at_ < r)) (
   (rc p_proof p_bad p_steps leaf at_ r).bind fun r1 =>
   (gq270 r1.2.1 r1.2.2.1 r1.2.2.2).bind fun r2 =>
   (gq269 r2.2.1 r2.2.2.1 r2.2.2.2 r1.1 r2.1).bind fun r3 =>
   kk r3.1 r3.2.1 r3.2.2.1 r3.2.2.2) (
   (rc p_proof p_bad p_steps leaf (IntKind.wrap .i64 (at_ - r)) (IntKind.wrap .i64 (size - r))).bind fun r4 =>
   (gq270 r4.2.1 r4.2.2.1 r4.2.2.2).bind fun r5 =>
   (gq269 r5.2.1 r5.2.2.1 r5.2.2.2 r5.1 r4.1).bind fun r6 =>
   kk r6.1 r6.2.1 r6.2.2.1 r6.2.2.2))
theorem gq203.F_nat {R S : Type} (g : R → Option S) (rc : List ByteArray → Bool → List ByteArray → ByteArray → Int → Int → Option (ByteArray × List ByteArray × Bool × List ByteArray)) (kk : ByteArray → List ByteArray → Bool → List ByteArray → Option R) (p_proof p_bad p_steps leaf at_ size) : gq203.F rc (fun y0 y1 y2 y3 => (kk y0 y1 y2 y3).bind g) p_proof p_bad p_steps leaf at_ size = (gq203.F rc kk p_proof p_bad p_steps leaf at_ size).bind g := by
 simp only [gq203.F, grd_bind, cnd_bind, bnd_bind, non_bind]
def gq203 : Nat → List ByteArray → Bool → List ByteArray → ByteArray → Int → Int → Option (ByteArray × List ByteArray × Bool × List ByteArray)
 | 0, _, _, _, _, _, _ => none
 | fu + 1, p_proof, p_bad, p_steps, leaf, at_, size => gq203.F (gq203 fu) (fun y0 y1 y2 y3 => some (y0, y1, y2, y3)) p_proof p_bad p_steps leaf at_ size
theorem gq203_nat {S : Type} (fu : Nat) (g : (ByteArray × List ByteArray × Bool × List ByteArray) → Option S) (p_proof : List ByteArray) (p_bad : Bool) (p_steps : List ByteArray) (leaf : ByteArray) (at_ : Int) (size : Int) : gq203.F (gq203 fu) (fun y0 y1 y2 y3 => g (y0, y1, y2, y3)) p_proof p_bad p_steps leaf at_ size = (gq203 (fu + 1) p_proof p_bad p_steps leaf at_ size).bind g := gq203.F_nat g (gq203 fu) (fun y0 y1 y2 y3 => some (y0, y1, y2, y3)) p_proof p_bad p_steps leaf at_ size
def gq203.out : (ByteArray × List ByteArray × Bool × List ByteArray) → CRes := fun a => ⟨encL SV.enc [.one (.str)] (a.1, ()), [encL SC.enc [.slv [1] .str, .bool, .own [] .str true] (a.2.1, a.2.2.1, a.2.2.2, ()), encL SC.enc [] (), encL SC.enc [] (), encL SC.enc [] ()]⟩
def gq203.ps : List PS := [.ptr [some (.str, false), none, some (.str, true)], .val [none], .val [none], .val [none]]
def gq203.sA : List SA := [.ptr [.slv [] .str, .bool, .own [] .str true], .v (.one (.str)), .v (.one (.int .i64)), .v (.one (.int .i64))]
def gq203.fi (fu : Nat) : FI := FIs gq203.sA (ByteArray × List ByteArray × Bool × List ByteArray) (fun t => gq203 fu t.1.1 t.1.2.1 t.1.2.2.1 t.2.1 t.2.2.1 t.2.2.2.1) gq203.out gq203.ps
def gq203.E (fu : Nat) : Env := ⟨tt, lkF [(179, gq179.fi), (203, gq203.fi fu), (269, gq269.fi), (270, gq270.fi)], 44, 1, [], [], []⟩
theorem gq203.hok (fu : Nat) (hE : EOk Tryz.prog (gq203.E fu)) : HintOk Tryz.prog (gq203.E fu) (bodyOf Tryz.f203) (.a) := HintOk.n1 (Q := True) (by kernel_rfl) trivial
theorem gq203.fok0 : FOk Tryz.prog 203 (gq203.fi 0) := FOk.zero ⟨_, _, Tryz.func203, by kernel_rfl, rfl⟩ (fun _ => rfl)
theorem gq203.fok1 (fu : Nat) (ih : FOk Tryz.prog 203 (gq203.fi fu)) : FOk Tryz.prog 203 (gq203.fi (fu + 1)) := by
 have hE : EOk Tryz.prog (gq203.E fu) := EOk.of ttOk (⟨gq179.fok, ⟨ih, ⟨gq269.fok, ⟨gq270.fok, trivial⟩⟩⟩⟩)
 exact fokS (E := gq203.E fu) (wy := ⟨[[none]], [[some (.str, false), none, some (.str, true)], [], [], []], []⟩) (h := (fun gs => .a)) (G := fun t g => gq203.F (gq203 fu) (fun y0 y1 y2 y3 => g (y0, y1, y2, y3)) t.1.1 t.1.2.1 t.1.2.2.1 t.2.1 t.2.2.1 t.2.2.2.1) (by kernel_rfl) hE Tryz.func203 (by kernel_rfl) rfl (Nat.le_refl _) (fun t => HintOk.n1 (by kernel_rfl) (gq203.hok fu hE)) (fun t g => gq203_nat fu g t.1.1 t.1.2.1 t.1.2.2.1 t.2.1 t.2.2.1 t.2.2.2.1) (fun t => by kernel_rfl)
theorem gq203.fok (fu : Nat) : FOk Tryz.prog 203 (gq203.fi fu) := Nat.rec gq203.fok0 gq203.fok1 fu
def gq121.F {R : Type} (kk : ByteArray → List ByteArray → Int → Option R) (leaf : ByteArray) (at_ : Int) (size : Int) (proof : List ByteArray) : Option R :=
 (gq92 size (1 : Int) (64 : Int)).bind fun r =>
 cond (!r) (kk ByteArray.empty [] (4 : Int)) (
  (gq92 at_ (0 : Int) (IntKind.wrap .i64 (size - (1 : Int)))).bind fun r1 =>
  cond (!r1) (kk ByteArray.empty [] (4 : Int)) (
   (gq203 fuel proof false [] leaf at_ size).bind fun r2 =>
   cond (r2.2.2.1) (kk ByteArray.empty [] (10 : Int)) (
    cond (decide ((List.length r2.2.1 : Int) > (0 : Int))) (kk ByteArray.empty [] (10 : Int)) (kk r2.1 r2.2.2.2 (0 : Int)))))
theorem gq121.F_nat {R S : Type} (g : R → Option S) (kk : ByteArray → List ByteArray → Int → Option R) (leaf at_ size proof) : gq121.F (fun y0 y1 y2 => (kk y0 y1 y2).bind g) leaf at_ size proof = (gq121.F kk leaf at_ size proof).bind g := by
 simp only [gq121.F, grd_bind, cnd_bind, bnd_bind, non_bind]
def gq121 (leaf : ByteArray) (at_ : Int) (size : Int) (proof : List ByteArray) : Option (ByteArray × List ByteArray × Int) := gq121.F (fun y0 y1 y2 => some (y0, y1, y2)) leaf at_ size proof
def gq121.out : (ByteArray × List ByteArray × Int) → CRes := fun a => ⟨encL SV.enc [.one (.str), .one (.own [] .str true), .one (.int .i64)] (a.1, a.2.1, a.2.2, ()), [encL SC.enc [] (), encL SC.enc [] (), encL SC.enc [] (), encL SC.enc [] ()]⟩
def gq121.ps : List PS := [.val [none], .val [none], .val [none], .val [some (.str, false)]]
def gq121.sA : List SA := [.v (.one (.str)), .v (.one (.int .i64)), .v (.one (.int .i64)), .v (.one (.slv [] .str))]
def gq121.fi : FI := FIs gq121.sA (ByteArray × List ByteArray × Int) (fun t => gq121 t.1 t.2.1 t.2.2.1 t.2.2.2.1) gq121.out gq121.ps
def gq121.E : Env := ⟨tt, lkF [(92, gq92.fi), (203, gq203.fi fuel)], 48, 0, [], [], []⟩
theorem gq121.hok (hE : EOk Tryz.prog (gq121.E)) : HintOk Tryz.prog gq121.E (bodyOf Tryz.f121) (.a) := HintOk.n1 (Q := True) (by kernel_rfl) trivial
theorem gq121.hE : EOk Tryz.prog (gq121.E) := EOk.of ttOk (⟨gq92.fok, ⟨gq203.fok fuel, trivial⟩⟩)
theorem gq121.fok : FOk Tryz.prog 121 gq121.fi :=
 fokS (E := gq121.E) (wy := ⟨[[none], [some (.str, true)], [none]], [[], [], [], []], []⟩) (h := (fun gs => .a)) (G := fun t g => gq121.F (fun y0 y1 y2 => g (y0, y1, y2)) t.1 t.2.1 t.2.2.1 t.2.2.2.1) (by kernel_rfl) gq121.hE Tryz.func121 (by kernel_rfl) rfl (Nat.le_refl _) (fun t => HintOk.n1 (by kernel_rfl) (gq121.hok gq121.hE)) (fun t g => gq121.F_nat g (fun y0 y1 y2 => some (y0, y1, y2)) _ _ _ _) (fun t => by kernel_rfl)
def gq183.l1 {R : Type} (kke0 : ByteArray → Int → List ByteArray → List ByteArray → List ByteArray → Option R) : Nat → ByteArray → Int → Int → Int → List ByteArray → List ByteArray → List ByteArray → List Int → Option R
 | 0, _, _, _, _, _, _, _, _ => none
 | n + 1, root, i, i1, x, x1, x2, ends, l =>
  cond (decide (i1 < i)) (
   grd (gIx i1 (List.length l)) <|
   grd (gIx i1 (List.length x1)) <|
   (gq160 (rdE (.str : Kd) x1 (Int.toNat i1)) (rdE (.int .i64 : Kd) l (Int.toNat i1)) (IntKind.wrap .i64 ((15 : Int) - (rdE (.int .i64 : Kd) l (Int.toNat i1))))).bind fun r =>
   grd (gRm (((List.length ends) + (List.length [r])) * 16)) <|
   gq183.l1 kke0 n root i (IntKind.wrap .i64 (i1 + (1 : Int))) x x1 x2 (ends ++ [r]) l) (kke0 root x x1 x2 ends)
theorem gq183.l1_nat {R S : Type} (g : R → Option S) (kke0 : ByteArray → Int → List ByteArray → List ByteArray → List ByteArray → Option R) : ∀ n root i i1 x x1 x2 ends l, gq183.l1 (fun y0 y1 y2 y3 y4 => (kke0 y0 y1 y2 y3 y4).bind g) n root i i1 x x1 x2 ends l = (gq183.l1 kke0 n root i i1 x x1 x2 ends l).bind g := by
 intro n
 induction n with
 | zero => intros; rfl
 | succ n ih => intros; simp only [gq183.l1, grd_bind, cnd_bind, bnd_bind, non_bind, ih]
def gq183.F {R : Type} (kk : Bool → Bool → Option R) (x_Index : Int) (x_Parts : List ByteArray) (x_Path : List ByteArray) (root : ByteArray) (msg : ByteArray) : Option R :=
 (gq159 msg).bind fun r =>
 gq183.l1 (fun root1 x x1 x2 ends =>
  (gq244 ends).bind fun r1 =>
  (gq121 r1 x (4 : Int) x2).bind fun r2 =>
  kk (sEq r2.1 root1) (r2.2.2 == (0 : Int))) fuel root (List.length r : Int) (0 : Int) x_Index x_Parts x_Path ([] : List ByteArray) r
theorem gq183.F_nat {R S : Type} (g : R → Option S) (kk : Bool → Bool → Option R) (x_Index x_Parts x_Path root msg) : gq183.F (fun y0 y1 => (kk y0 y1).bind g) x_Index x_Parts x_Path root msg = (gq183.F kk x_Index x_Parts x_Path root msg).bind g := by
 simp only [gq183.F, grd_bind, cnd_bind, bnd_bind, non_bind, ← gq183.l1_nat]
def gq183 (x_Index : Int) (x_Parts : List ByteArray) (x_Path : List ByteArray) (root : ByteArray) (msg : ByteArray) : Option (Bool × Bool) := gq183.F (fun y0 y1 => some (y0, y1)) x_Index x_Parts x_Path root msg
def gq183.out : (Bool × Bool) → CRes := fun a => ⟨encL SV.enc [.one (.bool), .one (.bool)] (a.1, a.2, ()), [encL SC.enc [] (), encL SC.enc [] (), encL SC.enc [] ()]⟩
def gq183.ps : List PS := [.val [none, some (.str, false), some (.str, false)], .val [none], .val [none]]
def gq183.sA : List SA := [.v (.agg [.int .i64, .slv [] .str, .slv [] .str]), .v (.one (.str)), .v (.one (.str))]
def gq183.fi : FI := FIs gq183.sA (Bool × Bool) (fun t => gq183 t.1.1 t.1.2.1 t.1.2.2.1 t.2.1 t.2.2.1) gq183.out gq183.ps
def gq183.E : Env := ⟨tt, lkF [(121, gq121.fi), (159, gq159.fi), (160, gq160.fi), (244, gq244.fi)], 52, 0, [], [], []⟩
def gq183.sh1 : SK := ⟨[.v (.one (.str)), .v (.one (.bptr 0 0)), .v (.one (.slo 1)), .v (.one (.slo 2)), .v (.one (.int .i64)), .v (.one (.int .i64))], [.box [.int .i64, .slv [1] .str, .slv [1] .str], .arr .str [] true, .arr (.int .i64) [] true]⟩
def gq183.sh1e0 : SK := ⟨[.v (.one (.str)), .v (.one (.bptr 0 0)), .v (.one (.slo 1))], [.box [.int .i64, .slv [1] .str, .slv [1] .str], .arr .str [] true]⟩
def gq183.ko1 : Ex → List CastAt × List Nat
 | .nrm => ([], [])
 | .ret => ([], [])
 | .ext i => cond (Nat.beq i 0) ([], [1, 3, 8]) ([], [])
def gq183.G1 (n : Nat) (R : Type) (t : gq183.sh1.T) (K : Ex → Kp → Option R) : Option R := gq183.l1 (fun y0 y1 y2 y3 y4 => K (.ext 0) (SK.enc gq183.sh1e0 ((y0, (), (), ()), ((y1, y2, y3, ()), y4, ())))) n t.1.1 t.1.2.2.2.2.1 t.1.2.2.2.2.2.1 t.2.1.1 t.2.1.2.1 t.2.1.2.2.1 t.2.2.1 t.2.2.2.1
def gq183.S1 : Sum := ⟨([], [1, 3, 8, 16, 17, 18]), sumF gq183.sh1 (gq183.G1 fuel), gq183.ko1⟩
theorem gq183.ok1 (hE : EOk Tryz.prog (gq183.E)) : SumOk Tryz.prog gq183.E (cB (cR (cL (cR (cR (bodyOf Tryz.f183)))))) (gq183.S1) := by
 have hh : HintOk Tryz.prog gq183.E (cB (cB (cR (cL (cR (cR (bodyOf Tryz.f183))))))) (.a) := HintOk.n1 (Q := True) (by kernel_rfl) trivial
 have h := loopS (kin := ([], [1, 3, 8, 16, 17, 18])) (kout := gq183.ko1) (sh := gq183.sh1) (F := gq183.G1) (ops_ok (hE.gv _)) (by kernel_rfl) hh (fun _ _ _ => rfl) (fun n R t K => by kernel_rfl) fuel
 exact HintOk.n1 (c := (cB (cR (cL (cR (cR (bodyOf Tryz.f183))))))) (h := .s (gq183.S1)) (P := Tryz.prog) (E := gq183.E) (by kernel_rfl) h
theorem gq183.hok (hE : EOk Tryz.prog (gq183.E)) : HintOk Tryz.prog gq183.E (bodyOf Tryz.f183) (.n (.a) (.n (.a) (.n (.n (.a) (.b (.s (gq183.S1)))) (.a)))) := HintOk.n1 (Q := (True) ∧ ((True) ∧ (((True) ∧ (SumOk Tryz.prog gq183.E (cB (cR (cL (cR (cR (bodyOf Tryz.f183)))))) (gq183.S1))) ∧ (True)))) (by kernel_rfl) ⟨trivial, ⟨trivial, ⟨⟨trivial, (gq183.ok1 hE)⟩, trivial⟩⟩⟩
theorem gq183.hE : EOk Tryz.prog (gq183.E) := EOk.of ttOk (⟨gq121.fok, ⟨gq159.fok, ⟨gq160.fok, ⟨gq244.fok, trivial⟩⟩⟩⟩)
theorem gq183.fok : FOk Tryz.prog 183 gq183.fi :=
 fokS (E := gq183.E) (wy := ⟨[[none], [none]], [[], [], []], []⟩) (h := (fun gs => .n (.a) (.n (.a) (.n (.n (.a) (.b (.s (gq183.S1)))) (.a))))) (G := fun t g => gq183.F (fun y0 y1 => g (y0, y1)) t.1.1 t.1.2.1 t.1.2.2.1 t.2.1 t.2.2.1) (by kernel_rfl) gq183.hE Tryz.func183 (by kernel_rfl) rfl (Nat.le_refl _) (fun t => HintOk.n1 (by kernel_rfl) (gq183.hok gq183.hE)) (fun t g => gq183.F_nat g (fun y0 y1 => some (y0, y1)) _ _ _ _ _) (fun t => by kernel_rfl)
def gq99.j1 {R : Type} (kkn : ByteArray → ByteArray → Bool → Int → List ByteArray → List ByteArray → Option R) (root : ByteArray) (msg : ByteArray) (x : Int) (x1 : List ByteArray) (x2 : List ByteArray) : Option R :=
 (gq96 [root, msg]).bind fun r =>
 cond (!r) (kkn root msg true x x1 x2) (
  (gq178 x1).bind fun r1 =>
  cond (!r1) (kkn root msg true x x1 x2) (
   (gq178 x2).bind fun r2 =>
   kkn root msg (!r2) x x1 x2))
theorem gq99.j1_nat {R S : Type} (g : R → Option S) (kkn : ByteArray → ByteArray → Bool → Int → List ByteArray → List ByteArray → Option R) (root msg x x1 x2) : gq99.j1 (fun y0 y1 y2 y3 y4 y5 => (kkn y0 y1 y2 y3 y4 y5).bind g) root msg x x1 x2 = (gq99.j1 kkn root msg x x1 x2).bind g := by
 simp only [gq99.j1, grd_bind, cnd_bind, bnd_bind, non_bind]
def gq99.j2 {R : Type} (kkn : ByteArray → ByteArray → Bool → Int → List ByteArray → List ByteArray → Option R) (root : ByteArray) (msg : ByteArray) (x : Int) (x1 : List ByteArray) (x2 : List ByteArray) : Option R :=
 (gq111 [root]).bind fun r =>
 cond (!r) (kkn root msg true x x1 x2) (
  cond (decide ((mx2 (List.length x1 : Int) (List.length x2 : Int)) > (64 : Int))) (kkn root msg true x x1 x2) (
   (gq111 x1).bind fun r1 =>
   cond (!r1) (kkn root msg true x x1 x2) (
    (gq111 x2).bind fun r2 =>
    kkn root msg (!r2) x x1 x2)))
theorem gq99.j2_nat {R S : Type} (g : R → Option S) (kkn : ByteArray → ByteArray → Bool → Int → List ByteArray → List ByteArray → Option R) (root msg x x1 x2) : gq99.j2 (fun y0 y1 y2 y3 y4 y5 => (kkn y0 y1 y2 y3 y4 y5).bind g) root msg x x1 x2 = (gq99.j2 kkn root msg x x1 x2).bind g := by
 simp only [gq99.j2, grd_bind, cnd_bind, bnd_bind, non_bind]
def gq99.F {R : Type} (kk : Int → Option R) (root : ByteArray) (msg : ByteArray) (x_Index : Int) (x_Parts : List ByteArray) (x_Path : List ByteArray) : Option R :=
 gq99.j1 (fun root1 msg1 b x x1 x2 =>
  cond (b) (kk (2 : Int)) (
   gq99.j2 (fun root2 msg2 b1 x3 x4 x5 =>
    cond (b1) (kk (1 : Int)) (
     (gq92 x3 (0 : Int) (3 : Int)).bind fun r =>
     cond (!r) (kk (4 : Int)) (
      cond ((List.length x4 : Int) != (18 : Int)) (kk (4 : Int)) (
       (gq183 x3 x4 x5 root2 msg2).bind fun r1 =>
       cond (!r1.2) (kk (10 : Int)) (cond (!r1.1) (kk (12 : Int)) (kk (0 : Int))))))) root1 msg1 x x1 x2)) root msg x_Index x_Parts x_Path
theorem gq99.F_nat {R S : Type} (g : R → Option S) (kk : Int → Option R) (root msg x_Index x_Parts x_Path) : gq99.F (fun y0 => (kk y0).bind g) root msg x_Index x_Parts x_Path = (gq99.F kk root msg x_Index x_Parts x_Path).bind g := by
 simp only [gq99.F, grd_bind, cnd_bind, bnd_bind, non_bind, ← gq99.j1_nat, ← gq99.j2_nat]
def gq99 (root : ByteArray) (msg : ByteArray) (x_Index : Int) (x_Parts : List ByteArray) (x_Path : List ByteArray) : Option Int := gq99.F (fun y0 => some y0) root msg x_Index x_Parts x_Path
def gq99.out : Int → CRes := fun a => ⟨encL SV.enc [.one (.int .i64)] (a, ()), [encL SC.enc [] (), encL SC.enc [] (), encL SC.enc [] ()]⟩
def gq99.ps : List PS := [.val [none], .val [none], .val [none, some (.str, false), some (.str, false)]]
def gq99.sA : List SA := [.v (.one (.str)), .v (.one (.str)), .v (.agg [.int .i64, .slv [] .str, .slv [] .str])]
def gq99.fi : FI := FIs gq99.sA (Int) (fun t => gq99 t.1 t.2.1 t.2.2.1.1 t.2.2.1.2.1 t.2.2.1.2.2.1) gq99.out gq99.ps
def gq99.E : Env := ⟨tt, lkF [(92, gq92.fi), (96, gq96.fi), (111, gq111.fi), (178, gq178.fi), (183, gq183.fi)], 78, 0, [], [], []⟩
def gq99.sh1 : SK := ⟨[.v (.one (.str)), .v (.one (.str)), .v (.one (.bptr 0 0))], [.box [.int .i64, .slv [3] .str, .slv [3] .str]]⟩
def gq99.sh1n : SK := ⟨[.v (.one (.str)), .v (.one (.str)), .v (.one (.bptr 0 0)), .v (.one (.bool))], [.box [.int .i64, .slv [3] .str, .slv [3] .str]]⟩
def gq99.ko1 : Ex → List CastAt × List Nat
 | .nrm => ([], [0, 1, 5, 9])
 | .ret => ([], [])
 | .ext i => ([], [])
def gq99.G1 (R : Type) (t : gq99.sh1.T) (K : Ex → Kp → Option R) : Option R := gq99.j1 (fun y0 y1 y2 y3 y4 y5 => K .nrm (SK.enc gq99.sh1n ((y0, y1, (), y2, ()), ((y3, y4, y5, ()), ())))) t.1.1 t.1.2.1 t.2.1.1 t.2.1.2.1 t.2.1.2.2.1
def gq99.S1 : Sum := ⟨([], [0, 1, 5]), sumF gq99.sh1 (gq99.G1), gq99.ko1⟩
theorem gq99.ok1 (hE : EOk Tryz.prog (gq99.E)) : SumOk Tryz.prog gq99.E (cL (cB (cL (cR (bodyOf Tryz.f99))))) (gq99.S1) := by
 have hh : HintOk Tryz.prog gq99.E (cL (cB (cL (cR (bodyOf Tryz.f99))))) (.a) := HintOk.n1 (Q := True) (by kernel_rfl) trivial
 exact sumS (kin := ([], [0, 1, 5])) (kout := gq99.ko1) (sh := gq99.sh1) (F := gq99.G1) (ops_ok (hE.gv _)) (by kernel_rfl) hh (fun R t K => by kernel_rfl)
def gq99.sh2 : SK := ⟨[.v (.one (.str)), .v (.one (.str)), .v (.one (.bptr 0 0))], [.box [.int .i64, .slv [3] .str, .slv [3] .str]]⟩
def gq99.sh2n : SK := ⟨[.v (.one (.str)), .v (.one (.str)), .v (.one (.bptr 0 0)), .v (.one (.bool))], [.box [.int .i64, .slv [3] .str, .slv [3] .str]]⟩
def gq99.ko2 : Ex → List CastAt × List Nat
 | .nrm => ([], [0, 1, 5, 27])
 | .ret => ([], [])
 | .ext i => ([], [])
def gq99.G2 (R : Type) (t : gq99.sh2.T) (K : Ex → Kp → Option R) : Option R := gq99.j2 (fun y0 y1 y2 y3 y4 y5 => K .nrm (SK.enc gq99.sh2n ((y0, y1, (), y2, ()), ((y3, y4, y5, ()), ())))) t.1.1 t.1.2.1 t.2.1.1 t.2.1.2.1 t.2.1.2.2.1
def gq99.S2 : Sum := ⟨([], [0, 1, 5]), sumF gq99.sh2 (gq99.G2), gq99.ko2⟩
theorem gq99.ok2 (hE : EOk Tryz.prog (gq99.E)) : SumOk Tryz.prog gq99.E (cL (cR (cR (cB (cL (cR (bodyOf Tryz.f99))))))) (gq99.S2) := by
 have hh : HintOk Tryz.prog gq99.E (cL (cR (cR (cB (cL (cR (bodyOf Tryz.f99))))))) (.a) := HintOk.n1 (Q := True) (by kernel_rfl) trivial
 exact sumS (kin := ([], [0, 1, 5])) (kout := gq99.ko2) (sh := gq99.sh2) (F := gq99.G2) (ops_ok (hE.gv _)) (by kernel_rfl) hh (fun R t K => by kernel_rfl)
theorem gq99.hok (hE : EOk Tryz.prog (gq99.E)) : HintOk Tryz.prog gq99.E (bodyOf Tryz.f99) (.n (.a) (.n (.b (.n (.s (gq99.S1)) (.n (.a) (.n (.s (gq99.S2)) (.a))))) (.a))) := HintOk.n1 (Q := (True) ∧ (((SumOk Tryz.prog gq99.E (cL (cB (cL (cR (bodyOf Tryz.f99))))) (gq99.S1)) ∧ ((True) ∧ ((SumOk Tryz.prog gq99.E (cL (cR (cR (cB (cL (cR (bodyOf Tryz.f99))))))) (gq99.S2)) ∧ (True)))) ∧ (True))) (by kernel_rfl) ⟨trivial, ⟨⟨(gq99.ok1 hE), ⟨trivial, ⟨(gq99.ok2 hE), trivial⟩⟩⟩, trivial⟩⟩
theorem gq99.hE : EOk Tryz.prog (gq99.E) := EOk.of ttOk (⟨gq92.fok, ⟨gq96.fok, ⟨gq111.fok, ⟨gq178.fok, ⟨gq183.fok, trivial⟩⟩⟩⟩⟩)
theorem gq99.fok : FOk Tryz.prog 99 gq99.fi :=
 fokS (E := gq99.E) (wy := ⟨[[none]], [[], [], []], []⟩) (h := (fun gs => .n (.a) (.n (.b (.n (.s (gq99.S1)) (.n (.a) (.n (.s (gq99.S2)) (.a))))) (.a)))) (G := fun t g => gq99.F (fun y0 => g y0) t.1 t.2.1 t.2.2.1.1 t.2.2.1.2.1 t.2.2.1.2.2.1) (by kernel_rfl) gq99.hE Tryz.func99 (by kernel_rfl) rfl (Nat.le_refl _) (fun t => HintOk.n1 (by kernel_rfl) (gq99.hok gq99.hE)) (fun t g => gq99.F_nat g (fun y0 => some y0) _ _ _ _ _) (fun t => by kernel_rfl)
def gq302.j1 {R : Type} (rc : List ByteArray → Bool → List ByteArray → Int → Int → Bool → ByteArray → Option (ByteArray × ByteArray × List ByteArray × Bool × List ByteArray)) (kkn : Int → Int → Bool → ByteArray → Bool → List ByteArray → Bool → List ByteArray → Option R) (m : Int) (n_ : Int) (known : Bool) (root : ByteArray) (p : List ByteArray) (p1 : Bool) (l : List ByteArray) : Option R :=
 cond (m == n_) (kkn m n_ known root known p p1 l) (kkn m n_ known root false p p1 l)
theorem gq302.j1_nat {R S : Type} (g : R → Option S) (rc : List ByteArray → Bool → List ByteArray → Int → Int → Bool → ByteArray → Option (ByteArray × ByteArray × List ByteArray × Bool × List ByteArray)) (kkn : Int → Int → Bool → ByteArray → Bool → List ByteArray → Bool → List ByteArray → Option R) (m n_ known root p p1 l) : gq302.j1 rc (fun y0 y1 y2 y3 y4 y5 y6 y7 => (kkn y0 y1 y2 y3 y4 y5 y6 y7).bind g) m n_ known root p p1 l = (gq302.j1 rc kkn m n_ known root p p1 l).bind g := by
 simp only [gq302.j1, grd_bind, cnd_bind, bnd_bind, non_bind]
def gq302.F {R : Type} (rc : List ByteArray → Bool → List ByteArray → Int → Int → Bool → ByteArray → Option (ByteArray × ByteArray × List ByteArray × Bool × List ByteArray)) (kk : ByteArray → ByteArray → List ByteArray → Bool → List ByteArray → Option R) (p_proof : List ByteArray) (p_bad : Bool) (p_steps : List ByteArray) (m : Int) (n_ : Int) (known : Bool) (root : ByteArray) : Option R :=
 gq302.j1 rc (fun m1 n_1 known1 root1 b p p1 l =>
  cond (b) (kk root1 root1 p p1 l) (
   cond (m1 == n_1) (
    (gq270 p p1 l).bind fun r =>
    kk r.1 r.1 r.2.1 r.2.2.1 r.2.2.2) (
    (gq179 n_1).bind fun r1 =>
    cond (decide (m1 ≤ r1)) (
     (rc p p1 l m1 r1 known1 root1).bind fun r2 =>
     (gq270 r2.2.2.1 r2.2.2.2.1 r2.2.2.2.2).bind fun r3 =>
     (gq180 r2.2.1 r3.1).bind fun r4 =>
     kk r2.1 r4 r3.2.1 r3.2.2.1 r3.2.2.2) (
     (rc p p1 l (IntKind.wrap .i64 (m1 - r1)) (IntKind.wrap .i64 (n_1 - r1)) false root1).bind fun r5 =>
     (gq270 r5.2.2.1 r5.2.2.2.1 r5.2.2.2.2).bind fun r6 =>
     (gq180 r6.1 r5.1).bind fun r7 =>
     (gq180 r6.1 r5.2.1).bind fun r8 =>
     kk r7 r8 r6.2.1 r6.2.2.1 r6.2.2.2)))) m n_ known root p_proof p_bad p_steps
theorem gq302.F_nat {R S : Type} (g : R → Option S) (rc : List ByteArray → Bool → List ByteArray → Int → Int → Bool → ByteArray → Option (ByteArray × ByteArray × List ByteArray × Bool × List ByteArray)) (kk : ByteArray → ByteArray → List ByteArray → Bool → List ByteArray → Option R) (p_proof p_bad p_steps m n_ known root) : gq302.F rc (fun y0 y1 y2 y3 y4 => (kk y0 y1 y2 y3 y4).bind g) p_proof p_bad p_steps m n_ known root = (gq302.F rc kk p_proof p_bad p_steps m n_ known root).bind g := by
 simp only [gq302.F, grd_bind, cnd_bind, bnd_bind, non_bind, ← gq302.j1_nat]
def gq302 : Nat → List ByteArray → Bool → List ByteArray → Int → Int → Bool → ByteArray → Option (ByteArray × ByteArray × List ByteArray × Bool × List ByteArray)
 | 0, _, _, _, _, _, _, _ => none
 | fu + 1, p_proof, p_bad, p_steps, m, n_, known, root => gq302.F (gq302 fu) (fun y0 y1 y2 y3 y4 => some (y0, y1, y2, y3, y4)) p_proof p_bad p_steps m n_ known root
theorem gq302_nat {S : Type} (fu : Nat) (g : (ByteArray × ByteArray × List ByteArray × Bool × List ByteArray) → Option S) (p_proof : List ByteArray) (p_bad : Bool) (p_steps : List ByteArray) (m : Int) (n_ : Int) (known : Bool) (root : ByteArray) : gq302.F (gq302 fu) (fun y0 y1 y2 y3 y4 => g (y0, y1, y2, y3, y4)) p_proof p_bad p_steps m n_ known root = (gq302 (fu + 1) p_proof p_bad p_steps m n_ known root).bind g := gq302.F_nat g (gq302 fu) (fun y0 y1 y2 y3 y4 => some (y0, y1, y2, y3, y4)) p_proof p_bad p_steps m n_ known root
def gq302.out : (ByteArray × ByteArray × List ByteArray × Bool × List ByteArray) → CRes := fun a => ⟨encL SV.enc [.one (.str), .one (.str)] (a.1, a.2.1, ()), [encL SC.enc [.slv [1] .str, .bool, .own [] .str true] (a.2.2.1, a.2.2.2.1, a.2.2.2.2, ()), encL SC.enc [] (), encL SC.enc [] (), encL SC.enc [] (), encL SC.enc [] ()]⟩
def gq302.ps : List PS := [.ptr [some (.str, false), none, some (.str, true)], .val [none], .val [none], .val [none], .val [none]]
def gq302.sA : List SA := [.ptr [.slv [] .str, .bool, .own [] .str true], .v (.one (.int .i64)), .v (.one (.int .i64)), .v (.one (.bool)), .v (.one (.str))]
def gq302.fi (fu : Nat) : FI := FIs gq302.sA (ByteArray × ByteArray × List ByteArray × Bool × List ByteArray) (fun t => gq302 fu t.1.1 t.1.2.1 t.1.2.2.1 t.2.1 t.2.2.1 t.2.2.2.1 t.2.2.2.2.1) gq302.out gq302.ps
def gq302.E (fu : Nat) : Env := ⟨tt, lkF [(179, gq179.fi), (180, gq180.fi), (270, gq270.fi), (302, gq302.fi fu)], 75, 1, [], [], []⟩
def gq302.sh1 : SK := ⟨[.v (.one (.bptr 0 0)), .v (.one (.int .i64)), .v (.one (.int .i64)), .v (.one (.bool)), .v (.one (.str))], [.box [.slv [1] .str, .bool, .slo 1], .arr .str [] true]⟩
def gq302.sh1n : SK := ⟨[.v (.one (.bptr 0 0)), .v (.one (.int .i64)), .v (.one (.int .i64)), .v (.one (.bool)), .v (.one (.str)), .v (.one (.bool))], [.box [.slv [1] .str, .bool, .slo 1], .arr .str [] true]⟩
def gq302.ko1 : Ex → List CastAt × List Nat
 | .nrm => ([], [0, 1, 2, 3, 4, 19])
 | .ret => ([], [])
 | .ext i => ([], [])
def gq302.G1 (fu : Nat) (R : Type) (t : gq302.sh1.T) (K : Ex → Kp → Option R) : Option R := gq302.j1 (gq302 fu) (fun y0 y1 y2 y3 y4 y5 y6 y7 => K .nrm (SK.enc gq302.sh1n (((), y0, y1, y2, y3, y4, ()), ((y5, y6, (), ()), y7, ())))) t.1.2.1 t.1.2.2.1 t.1.2.2.2.1 t.1.2.2.2.2.1 t.2.1.1 t.2.1.2.1 t.2.2.1
def gq302.S1 (fu : Nat) : Sum := ⟨([], [0, 1, 2, 3, 4]), sumF gq302.sh1 (gq302.G1 fu), gq302.ko1⟩
theorem gq302.ok1 (fu : Nat) (hE : EOk Tryz.prog (gq302.E fu)) : SumOk Tryz.prog (gq302.E fu) (cL (cB (cL (cR (bodyOf Tryz.f302))))) (gq302.S1 fu) := by
 have hh : HintOk Tryz.prog (gq302.E fu) (cL (cB (cL (cR (bodyOf Tryz.f302))))) (.a) := HintOk.n1 (Q := True) (by kernel_rfl) trivial
 exact sumS (kin := ([], [0, 1, 2, 3, 4])) (kout := gq302.ko1) (sh := gq302.sh1) (F := gq302.G1 fu) (ops_ok (hE.gv _)) (by kernel_rfl) hh (fun R t K => by kernel_rfl)
theorem gq302.hok (fu : Nat) (hE : EOk Tryz.prog (gq302.E fu)) : HintOk Tryz.prog (gq302.E fu) (bodyOf Tryz.f302) (.n (.a) (.n (.b (.n (.s (gq302.S1 fu)) (.a))) (.a))) := HintOk.n1 (Q := (True) ∧ (((SumOk Tryz.prog (gq302.E fu) (cL (cB (cL (cR (bodyOf Tryz.f302))))) (gq302.S1 fu)) ∧ (True)) ∧ (True))) (by kernel_rfl) ⟨trivial, ⟨⟨(gq302.ok1 fu hE), trivial⟩, trivial⟩⟩
theorem gq302.fok0 : FOk Tryz.prog 302 (gq302.fi 0) := FOk.zero ⟨_, _, Tryz.func302, by kernel_rfl, rfl⟩ (fun _ => rfl)
theorem gq302.fok1 (fu : Nat) (ih : FOk Tryz.prog 302 (gq302.fi fu)) : FOk Tryz.prog 302 (gq302.fi (fu + 1)) := by
 have hE : EOk Tryz.prog (gq302.E fu) := EOk.of ttOk (⟨gq179.fok, ⟨gq180.fok, ⟨gq270.fok, ⟨ih, trivial⟩⟩⟩⟩)
 exact fokS (E := gq302.E fu) (wy := ⟨[[none], [none]], [[some (.str, false), none, some (.str, true)], [], [], [], []], []⟩) (h := (fun gs => .n (.a) (.n (.b (.n (.s (gq302.S1 fu)) (.a))) (.a)))) (G := fun t g => gq302.F (gq302 fu) (fun y0 y1 y2 y3 y4 => g (y0, y1, y2, y3, y4)) t.1.1 t.1.2.1 t.1.2.2.1 t.2.1 t.2.2.1 t.2.2.2.1 t.2.2.2.2.1) (by kernel_rfl) hE Tryz.func302 (by kernel_rfl) rfl (Nat.le_refl _) (fun t => HintOk.n1 (by kernel_rfl) (gq302.hok fu hE)) (fun t g => gq302_nat fu g t.1.1 t.1.2.1 t.1.2.2.1 t.2.1 t.2.2.1 t.2.2.2.1 t.2.2.2.2.1) (fun t => by kernel_rfl)
theorem gq302.fok (fu : Nat) : FOk Tryz.prog 302 (gq302.fi fu) := Nat.rec gq302.fok0 gq302.fok1 fu
def gq245.F {R : Type} (kk : ByteArray → ByteArray → Int → Option R) (old : Int) (size : Int) (root : ByteArray) (proof : List ByteArray) : Option R :=
 (gq92 size (1 : Int) (64 : Int)).bind fun r =>
 cond (!r) (kk ByteArray.empty ByteArray.empty (4 : Int)) (
  (gq92 old (1 : Int) size).bind fun r1 =>
  cond (!r1) (kk ByteArray.empty ByteArray.empty (4 : Int)) (
   (gq302 fuel proof false [] old size true root).bind fun r2 =>
   cond (r2.2.2.2.1) (kk ByteArray.empty ByteArray.empty (10 : Int)) (
    cond (decide ((List.length r2.2.2.1 : Int) > (0 : Int))) (kk ByteArray.empty ByteArray.empty (10 : Int)) (kk r2.1 r2.2.1 (0 : Int)))))
theorem gq245.F_nat {R S : Type} (g : R → Option S) (kk : ByteArray → ByteArray → Int → Option R) (old size root proof) : gq245.F (fun y0 y1 y2 => (kk y0 y1 y2).bind g) old size root proof = (gq245.F kk old size root proof).bind g := by
 simp only [gq245.F, grd_bind, cnd_bind, bnd_bind, non_bind]
def gq245 (old : Int) (size : Int) (root : ByteArray) (proof : List ByteArray) : Option (ByteArray × ByteArray × Int) := gq245.F (fun y0 y1 y2 => some (y0, y1, y2)) old size root proof
def gq245.out : (ByteArray × ByteArray × Int) → CRes := fun a => ⟨encL SV.enc [.one (.str), .one (.str), .one (.int .i64)] (a.1, a.2.1, a.2.2, ()), [encL SC.enc [] (), encL SC.enc [] (), encL SC.enc [] (), encL SC.enc [] ()]⟩
def gq245.ps : List PS := [.val [none], .val [none], .val [none], .val [some (.str, false)]]
def gq245.sA : List SA := [.v (.one (.int .i64)), .v (.one (.int .i64)), .v (.one (.str)), .v (.one (.slv [] .str))]
def gq245.fi : FI := FIs gq245.sA (ByteArray × ByteArray × Int) (fun t => gq245 t.1 t.2.1 t.2.2.1 t.2.2.2.1) gq245.out gq245.ps
def gq245.E : Env := ⟨tt, lkF [(92, gq92.fi), (302, gq302.fi fuel)], 48, 0, [], [], []⟩
theorem gq245.hok (hE : EOk Tryz.prog (gq245.E)) : HintOk Tryz.prog gq245.E (bodyOf Tryz.f245) (.a) := HintOk.n1 (Q := True) (by kernel_rfl) trivial
theorem gq245.hE : EOk Tryz.prog (gq245.E) := EOk.of ttOk (⟨gq92.fok, ⟨gq302.fok fuel, trivial⟩⟩)
theorem gq245.fok : FOk Tryz.prog 245 gq245.fi :=
 fokS (E := gq245.E) (wy := ⟨[[none], [none], [none]], [[], [], [], []], []⟩) (h := (fun gs => .a)) (G := fun t g => gq245.F (fun y0 y1 y2 => g (y0, y1, y2)) t.1 t.2.1 t.2.2.1 t.2.2.2.1) (by kernel_rfl) gq245.hE Tryz.func245 (by kernel_rfl) rfl (Nat.le_refl _) (fun t => HintOk.n1 (by kernel_rfl) (gq245.hok gq245.hE)) (fun t g => gq245.F_nat g (fun y0 y1 y2 => some (y0, y1, y2)) _ _ _ _) (fun t => by kernel_rfl)
def gq184.F {R : Type} (kk : Int → Option R) (was_Size : Int) (was_Log : ByteArray) (was_Map : ByteArray) (now_Size : Int) (now_Log : ByteArray) (now_Map : ByteArray) (proof : List ByteArray) : Option R :=
 (gq245 was_Size now_Size was_Log proof).bind fun r =>
 cond (r.2.2 != (0 : Int)) (kk (10 : Int)) (
  cond (!(sEq r.1 was_Log)) (kk (19 : Int)) (cond (!(sEq r.2.1 now_Log)) (kk (19 : Int)) (kk (0 : Int))))
theorem gq184.F_nat {R S : Type} (g : R → Option S) (kk : Int → Option R) (was_Size was_Log was_Map now_Size now_Log now_Map proof) : gq184.F (fun y0 => (kk y0).bind g) was_Size was_Log was_Map now_Size now_Log now_Map proof = (gq184.F kk was_Size was_Log was_Map now_Size now_Log now_Map proof).bind g := by
 simp only [gq184.F, grd_bind, cnd_bind, bnd_bind, non_bind]
def gq184 (was_Size : Int) (was_Log : ByteArray) (was_Map : ByteArray) (now_Size : Int) (now_Log : ByteArray) (now_Map : ByteArray) (proof : List ByteArray) : Option Int := gq184.F (fun y0 => some y0) was_Size was_Log was_Map now_Size now_Log now_Map proof
def gq184.out : Int → CRes := fun a => ⟨encL SV.enc [.one (.int .i64)] (a, ()), [encL SC.enc [] (), encL SC.enc [] (), encL SC.enc [] ()]⟩
def gq184.ps : List PS := [.val [none, none, none], .val [none, none, none], .val [some (.str, false)]]
def gq184.sA : List SA := [.v (.agg [.int .i64, .str, .str]), .v (.agg [.int .i64, .str, .str]), .v (.one (.slv [] .str))]
def gq184.fi : FI := FIs gq184.sA (Int) (fun t => gq184 t.1.1 t.1.2.1 t.1.2.2.1 t.2.1.1 t.2.1.2.1 t.2.1.2.2.1 t.2.2.1) gq184.out gq184.ps
def gq184.E : Env := ⟨tt, lkF [(245, gq245.fi)], 36, 0, [], [], []⟩
theorem gq184.hok (hE : EOk Tryz.prog (gq184.E)) : HintOk Tryz.prog gq184.E (bodyOf Tryz.f184) (.a) := HintOk.n1 (Q := True) (by kernel_rfl) trivial
theorem gq184.hE : EOk Tryz.prog (gq184.E) := EOk.of ttOk (⟨gq245.fok, trivial⟩)
theorem gq184.fok : FOk Tryz.prog 184 gq184.fi :=
 fokS (E := gq184.E) (wy := ⟨[[none]], [[], [], []], []⟩) (h := (fun gs => .a)) (G := fun t g => gq184.F (fun y0 => g y0) t.1.1 t.1.2.1 t.1.2.2.1 t.2.1.1 t.2.1.2.1 t.2.1.2.2.1 t.2.2.1) (by kernel_rfl) gq184.hE Tryz.func184 (by kernel_rfl) rfl (Nat.le_refl _) (fun t => HintOk.n1 (by kernel_rfl) (gq184.hok gq184.hE)) (fun t g => gq184.F_nat g (fun y0 => some y0) _ _ _ _ _ _ _) (fun t => by kernel_rfl)
end
end Go.Proofs.YtdhifkdijlghdaaGreatDoorA
