/-
  Functions of the program, and that the small machine's runs are these. No condition.
  Printed by wip/amp/main.py (a session's own program) out of Lean's print of the program; Lean's kernel checks it.
-/
import Derived.Test.YtdhifkdijlghdaaGreatDoorXkT
namespace Go.Proofs.YtdhifkdijlghdaaGreatDoorA
open Go
noncomputable section
set_option linter.unusedVariables false
set_option linter.unusedSimpArgs false
set_option maxRecDepth 100000
def gq84.F {R : Type} (kk : List Int → Int → Int → Option R) (code : List Int) : Option R :=
 grd (gNz (1000 : Int)) <|
 kk code (0 : Int) (Int.tmod (List.length code : Int) (1000 : Int))
theorem gq84.F_nat {R S : Type} (g : R → Option S) (kk : List Int → Int → Int → Option R) (code) : gq84.F (fun y0 y1 y2 => (kk y0 y1 y2).bind g) code = (gq84.F kk code).bind g := by
 simp only [gq84.F, grd_bind, cnd_bind, bnd_bind, non_bind]
def gq84 (code : List Int) : Option (List Int × Int × Int) := gq84.F (fun y0 y1 y2 => some (y0, y1, y2)) code
def gq84.out : (List Int × Int × Int) → CRes := fun a => ⟨encL SV.enc [.pbx [.slv [1] (.int .u8), .int .i64, .int .i64]] ((a.1, a.2.1, a.2.2, ()), ()), [encL SC.enc [] ()]⟩
def gq84.ps : List PS := [.val [some ((.int .u8), false)]]
def gq84.sA : List SA := [.v (.one (.slv [] (.int .u8)))]
def gq84.fi : FI := FIs gq84.sA (List Int × Int × Int) (fun t => gq84 t.1) gq84.out gq84.ps
def gq84.E : Env := ⟨tt, lkF [], 9, 0, [], [], []⟩
theorem gq84.hok (hE : EOk Tryz.prog (gq84.E)) : HintOk Tryz.prog gq84.E (bodyOf Tryz.f84) (.a) := HintOk.n1 (Q := True) (by kernel_rfl) trivial
theorem gq84.hE : EOk Tryz.prog (gq84.E) := EOk.of ttOk (trivial)
theorem gq84.fok : FOk Tryz.prog 84 gq84.fi :=
 fokS (E := gq84.E) (wy := ⟨[[some ((.int .u8), false), none, none]], [[]], []⟩) (h := (fun gs => .a)) (G := fun t g => gq84.F (fun y0 y1 y2 => g (y0, y1, y2)) t.1) (by kernel_rfl) gq84.hE Tryz.func84 (by kernel_rfl) rfl (Nat.le_refl _) (fun t => HintOk.n1 (by kernel_rfl) (gq84.hok gq84.hE)) (fun t g => gq84.F_nat g (fun y0 y1 y2 => some (y0, y1, y2)) _) (fun t => by kernel_rfl)
def gq176.F {R : Type} (kk : List Int → Option R) : Option R :=
 kk [(1116352408 : Int), (1899447441 : Int), (3049323471 : Int), (3921009573 : Int), (961987163 : Int), (1508970993 : Int), (2453635748 : Int), (2870763221 : Int), (3624381080 : Int), (310598401 : Int), (607225278 : Int), (1426881987 : Int), (1925078388 : Int), (2162078206 : Int), (2614888103 : Int), (3248222580 : Int), (3835390401 : Int), (4022224774 : Int), (264347078 : Int), (604807628 : Int), (770255983 : Int), (1249150122 : Int), (1555081692 : Int), (1996064986 : Int), (2554220882 : Int), (2821834349 : Int), (2952996808 : Int), (3210313671 : Int), (3336571891 : Int), (3584528711 : Int), (113926993 : Int), (338241895 : Int), (666307205 : Int), (773529912 : Int), (1294757372 : Int), (1396182291 : Int), (1695183700 : Int), (1986661051 : Int), (2177026350 : Int), (2456956037 : Int), (2730485921 : Int), (2820302411 : Int), (3259730800 : Int), (3345764771 : Int), (3516065817 : Int), (3600352804 : Int), (4094571909 : Int), (275423344 : Int), (430227734 : Int), (506948616 : Int), (659060556 : Int), (883997877 : Int), (958139571 : Int), (1322822218 : Int), (1537002063 : Int), (1747873779 : Int), (1955562222 : Int), (2024104815 : Int), (2227730452 : Int), (2361852424 : Int), (2428436474 : Int), (2756734187 : Int), (3204031479 : Int), (3329325298 : Int)]
theorem gq176.F_nat {R S : Type} (g : R → Option S) (kk : List Int → Option R) : gq176.F (fun y0 => (kk y0).bind g) = (gq176.F kk).bind g := by
 simp only [gq176.F, grd_bind, cnd_bind, bnd_bind, non_bind]
def gq176 : Option (List Int) := gq176.F (fun y0 => some y0)
def gq176.out : (List Int) → CRes := fun a => ⟨encL SV.enc [.one (.own [] (.int .u32) true)] (a, ()), []⟩
def gq176.ps : List PS := []
def gq176.sA : List SA := []
def gq176.fi : FI := FIs gq176.sA (List Int) (fun t => gq176) gq176.out gq176.ps
def gq176.E : Env := ⟨tt, lkF [], 2, 0, [], [], []⟩
theorem gq176.hok (hE : EOk Tryz.prog (gq176.E)) : HintOk Tryz.prog gq176.E (bodyOf Tryz.f176) (.a) := HintOk.n1 (Q := True) (by kernel_rfl) trivial
theorem gq176.hE : EOk Tryz.prog (gq176.E) := EOk.of ttOk (trivial)
theorem gq176.fok : FOk Tryz.prog 176 gq176.fi :=
 fokS (E := gq176.E) (wy := ⟨[[some ((.int .u32), true)]], [], []⟩) (h := (fun gs => .a)) (G := fun t g => gq176.F (fun y0 => g y0)) (by kernel_rfl) gq176.hE Tryz.func176 (by kernel_rfl) rfl (Nat.le_refl _) (fun t => HintOk.n1 (by kernel_rfl) (gq176.hok gq176.hE)) (fun t g => gq176.F_nat g (fun y0 => some y0)) (fun t => by kernel_rfl)
def gq242.F {R : Type} (kk : Int → Option R) (x : Int) (n_ : Int) : Option R :=
 grd (gSh n_) <|
 grd (gSh (IntKind.wrap .u64 ((32 : Int) - n_))) <|
 kk (iOr .u32 (iShr .u32 x n_) (iShl .u32 x (IntKind.wrap .u64 ((32 : Int) - n_))))
theorem gq242.F_nat {R S : Type} (g : R → Option S) (kk : Int → Option R) (x n_) : gq242.F (fun y0 => (kk y0).bind g) x n_ = (gq242.F kk x n_).bind g := by
 simp only [gq242.F, grd_bind, cnd_bind, bnd_bind, non_bind]
def gq242 (x : Int) (n_ : Int) : Option Int := gq242.F (fun y0 => some y0) x n_
def gq242.out : Int → CRes := fun a => ⟨encL SV.enc [.one (.int .u32)] (a, ()), [encL SC.enc [] (), encL SC.enc [] ()]⟩
def gq242.ps : List PS := [.val [none], .val [none]]
def gq242.sA : List SA := [.v (.one (.int .u32)), .v (.one (.int .u64))]
def gq242.fi : FI := FIs gq242.sA (Int) (fun t => gq242 t.1 t.2.1) gq242.out gq242.ps
def gq242.E : Env := ⟨tt, lkF [], 13, 0, [], [], []⟩
theorem gq242.hok (hE : EOk Tryz.prog (gq242.E)) : HintOk Tryz.prog gq242.E (bodyOf Tryz.f242) (.a) := HintOk.n1 (Q := True) (by kernel_rfl) trivial
theorem gq242.hE : EOk Tryz.prog (gq242.E) := EOk.of ttOk (trivial)
theorem gq242.fok : FOk Tryz.prog 242 gq242.fi :=
 fokS (E := gq242.E) (wy := ⟨[[none]], [[], []], []⟩) (h := (fun gs => .a)) (G := fun t g => gq242.F (fun y0 => g y0) t.1 t.2.1) (by kernel_rfl) gq242.hE Tryz.func242 (by kernel_rfl) rfl (Nat.le_refl _) (fun t => HintOk.n1 (by kernel_rfl) (gq242.hok gq242.hE)) (fun t g => gq242.F_nat g (fun y0 => some y0) _ _) (fun t => by kernel_rfl)
def gq177.l1 {R : Type} (kke0 : List Int → List Int → List Int → Option R) : Nat → List Int → List Int → Int → List Int → List Int → Option R
 | 0, _, _, _, _, _ => none
 | n + 1, b, k_, i, h, w =>
  cond (decide (i < (16 : Int))) (
   grd (gIx (IntKind.wrap .i64 ((4 : Int) * i)) (List.length b)) <|
   grd (gSh (24 : Int)) <|
   grd (gIx (IntKind.wrap .i64 ((IntKind.wrap .i64 ((4 : Int) * i)) + (1 : Int))) (List.length b)) <|
   grd (gSh (16 : Int)) <|
   grd (gIx (IntKind.wrap .i64 ((IntKind.wrap .i64 ((4 : Int) * i)) + (2 : Int))) (List.length b)) <|
   grd (gSh (8 : Int)) <|
   grd (gIx (IntKind.wrap .i64 ((IntKind.wrap .i64 ((4 : Int) * i)) + (3 : Int))) (List.length b)) <|
   grd (gIx i (List.length w)) <|
   gq177.l1 kke0 n b k_ (IntKind.wrap .i64 (i + (1 : Int))) h (setE (.int .u32 : Kd) w (Int.toNat i) (iOr .u32 (iOr .u32 (iOr .u32 (iShl .u32 (IntKind.wrap .u32 (rdE (.int .u8 : Kd) b (Int.toNat (IntKind.wrap .i64 ((4 : Int) * i))))) (24 : Int)) (iShl .u32 (IntKind.wrap .u32 (rdE (.int .u8 : Kd) b (Int.toNat (IntKind.wrap .i64 ((IntKind.wrap .i64 ((4 : Int) * i)) + (1 : Int)))))) (16 : Int))) (iShl .u32 (IntKind.wrap .u32 (rdE (.int .u8 : Kd) b (Int.toNat (IntKind.wrap .i64 ((IntKind.wrap .i64 ((4 : Int) * i)) + (2 : Int)))))) (8 : Int))) (IntKind.wrap .u32 (rdE (.int .u8 : Kd) b (Int.toNat (IntKind.wrap .i64 ((IntKind.wrap .i64 ((4 : Int) * i)) + (3 : Int))))))))) (kke0 k_ h w)
theorem gq177.l1_nat {R S : Type} (g : R → Option S) (kke0 : List Int → List Int → List Int → Option R) : ∀ n b k_ i h w, gq177.l1 (fun y0 y1 y2 => (kke0 y0 y1 y2).bind g) n b k_ i h w = (gq177.l1 kke0 n b k_ i h w).bind g := by
 intro n
 induction n with
 | zero => intros; rfl
 | succ n ih => intros; simp only [gq177.l1, grd_bind, cnd_bind, bnd_bind, non_bind, ih]
def gq177.l2 {R : Type} (kke2 : List Int → List Int → List Int → Option R) : Nat → List Int → Int → List Int → List Int → Option R
 | 0, _, _, _, _ => none
 | n + 1, k_, i, h, w =>
  cond (decide (i < (64 : Int))) (
   grd (gIx (IntKind.wrap .i64 (i - (15 : Int))) (List.length w)) <|
   grd (gIx (IntKind.wrap .i64 (i - (2 : Int))) (List.length w)) <|
   grd (gIx (IntKind.wrap .i64 (i - (16 : Int))) (List.length w)) <|
   (gq242 (rdE (.int .u32 : Kd) w (Int.toNat (IntKind.wrap .i64 (i - (15 : Int))))) (7 : Int)).bind fun r =>
   (gq242 (rdE (.int .u32 : Kd) w (Int.toNat (IntKind.wrap .i64 (i - (15 : Int))))) (18 : Int)).bind fun r1 =>
   grd (gSh (3 : Int)) <|
   grd (gIx (IntKind.wrap .i64 (i - (7 : Int))) (List.length w)) <|
   (gq242 (rdE (.int .u32 : Kd) w (Int.toNat (IntKind.wrap .i64 (i - (2 : Int))))) (17 : Int)).bind fun r2 =>
   (gq242 (rdE (.int .u32 : Kd) w (Int.toNat (IntKind.wrap .i64 (i - (2 : Int))))) (19 : Int)).bind fun r3 =>
   grd (gSh (10 : Int)) <|
   grd (gIx i (List.length w)) <|
   gq177.l2 kke2 n k_ (IntKind.wrap .i64 (i + (1 : Int))) h (setE (.int .u32 : Kd) w (Int.toNat i) (IntKind.wrap .u32 ((IntKind.wrap .u32 ((IntKind.wrap .u32 ((rdE (.int .u32 : Kd) w (Int.toNat (IntKind.wrap .i64 (i - (16 : Int))))) + (iXor .u32 (iXor .u32 r r1) (iShr .u32 (rdE (.int .u32 : Kd) w (Int.toNat (IntKind.wrap .i64 (i - (15 : Int))))) (3 : Int))))) + (rdE (.int .u32 : Kd) w (Int.toNat (IntKind.wrap .i64 (i - (7 : Int))))))) + (iXor .u32 (iXor .u32 r2 r3) (iShr .u32 (rdE (.int .u32 : Kd) w (Int.toNat (IntKind.wrap .i64 (i - (2 : Int))))) (10 : Int))))))) (kke2 k_ h w)
theorem gq177.l2_nat {R S : Type} (g : R → Option S) (kke2 : List Int → List Int → List Int → Option R) : ∀ n k_ i h w, gq177.l2 (fun y0 y1 y2 => (kke2 y0 y1 y2).bind g) n k_ i h w = (gq177.l2 kke2 n k_ i h w).bind g := by
 intro n
 induction n with
 | zero => intros; rfl
 | succ n ih => intros; simp only [gq177.l2, grd_bind, cnd_bind, bnd_bind, non_bind, ih]
def gq177.l3 {R : Type} (kke4 : List Int → List Int → Option R) : Nat → List Int → Int → List Int → List Int → List Int → Option R
 | 0, _, _, _, _, _ => none
 | n + 1, k_, i, h, w, v =>
  cond (decide (i < (64 : Int))) (
   grd (gIx (4 : Int) (List.length v)) <|
   grd (gIx (0 : Int) (List.length v)) <|
   grd (gIx (7 : Int) (List.length v)) <|
   (gq242 (rdE (.int .u32 : Kd) v (Int.toNat (4 : Int))) (6 : Int)).bind fun r =>
   (gq242 (rdE (.int .u32 : Kd) v (Int.toNat (4 : Int))) (11 : Int)).bind fun r1 =>
   (gq242 (rdE (.int .u32 : Kd) v (Int.toNat (4 : Int))) (25 : Int)).bind fun r2 =>
   grd (gIx (5 : Int) (List.length v)) <|
   grd (gIx (6 : Int) (List.length v)) <|
   grd (gIx i (List.length k_)) <|
   grd (gIx i (List.length w)) <|
   (gq242 (rdE (.int .u32 : Kd) v (Int.toNat (0 : Int))) (2 : Int)).bind fun r3 =>
   (gq242 (rdE (.int .u32 : Kd) v (Int.toNat (0 : Int))) (13 : Int)).bind fun r4 =>
   (gq242 (rdE (.int .u32 : Kd) v (Int.toNat (0 : Int))) (22 : Int)).bind fun r5 =>
   grd (gIx (1 : Int) (List.length v)) <|
   grd (gIx (2 : Int) (List.length v)) <|
   grd (gIx (1 : Int) (List.length v)) <|
   grd (gIx (2 : Int) (List.length v)) <|
   grd (gIx (0 : Int) (List.length v)) <|
   grd (gIx (1 : Int) (List.length v)) <|
   grd (gIx (2 : Int) (List.length v)) <|
   grd (gIx (3 : Int) (List.length v)) <|
   grd (gIx (4 : Int) (List.length v)) <|
   grd (gIx (5 : Int) (List.length v)) <|
   grd (gIx (6 : Int) (List.length v)) <|
   gq177.l3 kke4 n k_ (IntKind.wrap .i64 (i + (1 : Int))) h w [IntKind.wrap .u32 ((IntKind.wrap .u32 ((IntKind.wrap .u32 ((IntKind.wrap .u32 ((IntKind.wrap .u32 ((rdE (.int .u32 : Kd) v (Int.toNat (7 : Int))) + (iXor .u32 (iXor .u32 r r1) r2))) + (iXor .u32 (iAnd .u32 (rdE (.int .u32 : Kd) v (Int.toNat (4 : Int))) (rdE (.int .u32 : Kd) v (Int.toNat (5 : Int)))) (iAnd .u32 (iXor .u32 (IntKind.max .u32) (rdE (.int .u32 : Kd) v (Int.toNat (4 : Int)))) (rdE (.int .u32 : Kd) v (Int.toNat (6 : Int))))))) + (rdE (.int .u32 : Kd) k_ (Int.toNat i)))) + (rdE (.int .u32 : Kd) w (Int.toNat i)))) + (IntKind.wrap .u32 ((iXor .u32 (iXor .u32 r3 r4) r5) + (iXor .u32 (iXor .u32 (iAnd .u32 (rdE (.int .u32 : Kd) v (Int.toNat (0 : Int))) (rdE (.int .u32 : Kd) v (Int.toNat (1 : Int)))) (iAnd .u32 (rdE (.int .u32 : Kd) v (Int.toNat (0 : Int))) (rdE (.int .u32 : Kd) v (Int.toNat (2 : Int))))) (iAnd .u32 (rdE (.int .u32 : Kd) v (Int.toNat (1 : Int))) (rdE (.int .u32 : Kd) v (Int.toNat (2 : Int)))))))), rdE (.int .u32 : Kd) v (Int.toNat (0 : Int)), rdE (.int .u32 : Kd) v (Int.toNat (1 : Int)), rdE (.int .u32 : Kd) v (Int.toNat (2 : Int)), IntKind.wrap .u32 ((rdE (.int .u32 : Kd) v (Int.toNat (3 : Int))) + (IntKind.wrap .u32 ((IntKind.wrap .u32 ((IntKind.wrap .u32 ((IntKind.wrap .u32 ((rdE (.int .u32 : Kd) v (Int.toNat (7 : Int))) + (iXor .u32 (iXor .u32 r r1) r2))) + (iXor .u32 (iAnd .u32 (rdE (.int .u32 : Kd) v (Int.toNat (4 : Int))) (rdE (.int .u32 : Kd) v (Int.toNat (5 : Int)))) (iAnd .u32 (iXor .u32 (IntKind.max .u32) (rdE (.int .u32 : Kd) v (Int.toNat (4 : Int)))) (rdE (.int .u32 : Kd) v (Int.toNat (6 : Int))))))) + (rdE (.int .u32 : Kd) k_ (Int.toNat i)))) + (rdE (.int .u32 : Kd) w (Int.toNat i))))), rdE (.int .u32 : Kd) v (Int.toNat (4 : Int)), rdE (.int .u32 : Kd) v (Int.toNat (5 : Int)), rdE (.int .u32 : Kd) v (Int.toNat (6 : Int))]) (kke4 h v)
theorem gq177.l3_nat {R S : Type} (g : R → Option S) (kke4 : List Int → List Int → Option R) : ∀ n k_ i h w v, gq177.l3 (fun y0 y1 => (kke4 y0 y1).bind g) n k_ i h w v = (gq177.l3 kke4 n k_ i h w v).bind g := by
 intro n
 induction n with
 | zero => intros; rfl
 | succ n ih => intros; simp only [gq177.l3, grd_bind, cnd_bind, bnd_bind, non_bind, ih]
def gq177.l4 {R : Type} (kke6 : List Int → Option R) : Nat → Int → List Int → List Int → Option R
 | 0, _, _, _ => none
 | n + 1, i, h, v =>
  cond (decide (i < (8 : Int))) (
   grd (gIx i (List.length h)) <|
   grd (gIx i (List.length v)) <|
   grd (gIx i (List.length h)) <|
   gq177.l4 kke6 n (IntKind.wrap .i64 (i + (1 : Int))) (setE (.int .u32 : Kd) h (Int.toNat i) (IntKind.wrap .u32 ((rdE (.int .u32 : Kd) h (Int.toNat i)) + (rdE (.int .u32 : Kd) v (Int.toNat i))))) v) (kke6 h)
theorem gq177.l4_nat {R S : Type} (g : R → Option S) (kke6 : List Int → Option R) : ∀ n i h v, gq177.l4 (fun y0 => (kke6 y0).bind g) n i h v = (gq177.l4 kke6 n i h v).bind g := by
 intro n
 induction n with
 | zero => intros; rfl
 | succ n ih => intros; simp only [gq177.l4, grd_bind, cnd_bind, bnd_bind, non_bind, ih]
def gq177.F {R : Type} (kk : List Int → Option R) (h : List Int) (b : List Int) (k_ : List Int) : Option R :=
 grd (gMk (64 : Int) (64 : Int) 4) <|
 gq177.l1 (fun k_1 h1 w =>
  gq177.l2 (fun k_2 h2 w1 =>
   grd (gRm (((List.length ([] : List Int)) + (List.length h2)) * 4)) <|
   gq177.l3 (fun h3 v => gq177.l4 (fun h4 => kk h4) fuel (0 : Int) h3 v) fuel k_2 (0 : Int) h2 w1 (([] : List Int) ++ h2)) fuel k_1 (16 : Int) h1 w) fuel b k_ (0 : Int) h (List.replicate (Int.toNat (64 : Int)) (0 : Int))
theorem gq177.F_nat {R S : Type} (g : R → Option S) (kk : List Int → Option R) (h b k_) : gq177.F (fun y0 => (kk y0).bind g) h b k_ = (gq177.F kk h b k_).bind g := by
 simp only [gq177.F, grd_bind, cnd_bind, bnd_bind, non_bind, ← gq177.l1_nat, ← gq177.l2_nat, ← gq177.l3_nat, ← gq177.l4_nat]
theorem gq177_ex : ∃ f : List Int → List Int → List Int → Option (List Int), f = fun (h : List Int) (b : List Int) (k_ : List Int) => gq177.F (fun y0 => some y0) h b k_ := ⟨_, rfl⟩
noncomputable def gq177 : List Int → List Int → List Int → Option (List Int) := Classical.choose gq177_ex
theorem gq177_eq (h : List Int) (b : List Int) (k_ : List Int) : gq177 h b k_ = gq177.F (fun y0 => some y0) h b k_ := (congrFun (congrFun (congrFun (Classical.choose_spec gq177_ex) h) b) k_)
theorem gq177_nat {S : Type} (g : (List Int) → Option S) (h : List Int) (b : List Int) (k_ : List Int) : gq177.F (fun y0 => g y0) h b k_ = (gq177 h b k_).bind g := by
 rw [gq177_eq]
 exact gq177.F_nat g (fun y0 => some y0) h b k_
def gq177.out : (List Int) → CRes := fun a => ⟨encL SV.enc [] (), [encL SC.enc [.own [] (.int .u32) true] (a, ()), encL SC.enc [] (), encL SC.enc [] ()]⟩
def gq177.ps : List PS := [.val [some ((.int .u32), true)], .val [some ((.int .u8), false)], .val [some ((.int .u32), false)]]
def gq177.sA : List SA := [.v (.one (.own [] (.int .u32) true)), .v (.one (.slv [] (.int .u8))), .v (.one (.slv [] (.int .u32)))]
def gq177.fi : FI := FIs gq177.sA (List Int) (fun t => gq177 t.1 t.2.1 t.2.2.1) gq177.out gq177.ps
def gq177.E : Env := ⟨tt, lkF [(242, gq242.fi)], 222, 1, [], [], []⟩
def gq177.sh1 : SK := ⟨[.v (.one (.slo 0)), .v (.one (.slv [2] (.int .u8))), .v (.one (.slv [3] (.int .u32))), .v (.one (.slo 1)), .v (.one (.int .i64))], [.arr (.int .u32) [] true, .arr (.int .u32) [] true]⟩
def gq177.sh1e0 : SK := ⟨[.v (.one (.slo 0)), .v (.one (.slv [3] (.int .u32))), .v (.one (.slo 1))], [.arr (.int .u32) [] true, .arr (.int .u32) [] true]⟩
def gq177.ko1 : Ex → List CastAt × List Nat
 | .nrm => ([], [])
 | .ret => ([], [])
 | .ext i => cond (Nat.beq i 0) ([], [0, 2, 6]) ([], [])
def gq177.G1 (n : Nat) (R : Type) (t : gq177.sh1.T) (K : Ex → Kp → Option R) : Option R := gq177.l1 (fun y0 y1 y2 => K (.ext 0) (SK.enc gq177.sh1e0 (((), y0, (), ()), (y1, y2, ())))) n t.1.2.1 t.1.2.2.1 t.1.2.2.2.2.1 t.2.1 t.2.2.1
def gq177.S1 : Sum := ⟨([], [0, 1, 2, 6, 7]), sumF gq177.sh1 (gq177.G1 fuel), gq177.ko1⟩
theorem gq177.ok1 (hE : EOk Tryz.prog (gq177.E)) : SumOk Tryz.prog gq177.E (cB (cR (cL (cR (bodyOf Tryz.f177))))) (gq177.S1) := by
 have hh : HintOk Tryz.prog gq177.E (cB (cB (cR (cL (cR (bodyOf Tryz.f177)))))) (.a) := HintOk.n1 (Q := True) (by kernel_rfl) trivial
 have h := loopS (kin := ([], [0, 1, 2, 6, 7])) (kout := gq177.ko1) (sh := gq177.sh1) (F := gq177.G1) (ops_ok (hE.gv _)) (by kernel_rfl) hh (fun _ _ _ => rfl) (fun n R t K => by kernel_rfl) fuel
 exact HintOk.n1 (c := (cB (cR (cL (cR (bodyOf Tryz.f177)))))) (h := .s (gq177.S1)) (P := Tryz.prog) (E := gq177.E) (by kernel_rfl) h
def gq177.sh2 : SK := ⟨[.v (.one (.slo 0)), .v (.one (.slv [3] (.int .u32))), .v (.one (.slo 1)), .v (.one (.int .i64))], [.arr (.int .u32) [] true, .arr (.int .u32) [] true]⟩
def gq177.sh2e2 : SK := ⟨[.v (.one (.slo 0)), .v (.one (.slv [3] (.int .u32))), .v (.one (.slo 1))], [.arr (.int .u32) [] true, .arr (.int .u32) [] true]⟩
def gq177.ko2 : Ex → List CastAt × List Nat
 | .nrm => ([], [])
 | .ret => ([], [])
 | .ext i => cond (Nat.beq i 2) ([], [0, 2, 6]) ([], [])
def gq177.G2 (n : Nat) (R : Type) (t : gq177.sh2.T) (K : Ex → Kp → Option R) : Option R := gq177.l2 (fun y0 y1 y2 => K (.ext 2) (SK.enc gq177.sh2e2 (((), y0, (), ()), (y1, y2, ())))) n t.1.2.1 t.1.2.2.2.1 t.2.1 t.2.2.1
def gq177.S2 : Sum := ⟨([], [0, 2, 6, 8]), sumF gq177.sh2 (gq177.G2 fuel), gq177.ko2⟩
theorem gq177.ok2 (hE : EOk Tryz.prog (gq177.E)) : SumOk Tryz.prog gq177.E (cB (cR (cL (cR (cR (bodyOf Tryz.f177)))))) (gq177.S2) := by
 have hh : HintOk Tryz.prog gq177.E (cB (cB (cR (cL (cR (cR (bodyOf Tryz.f177))))))) (.a) := HintOk.n1 (Q := True) (by kernel_rfl) trivial
 have h := loopS (kin := ([], [0, 2, 6, 8])) (kout := gq177.ko2) (sh := gq177.sh2) (F := gq177.G2) (ops_ok (hE.gv _)) (by kernel_rfl) hh (fun _ _ _ => rfl) (fun n R t K => by kernel_rfl) fuel
 exact HintOk.n1 (c := (cB (cR (cL (cR (cR (bodyOf Tryz.f177))))))) (h := .s (gq177.S2)) (P := Tryz.prog) (E := gq177.E) (by kernel_rfl) h
def gq177.sh3 : SK := ⟨[.v (.one (.slo 0)), .v (.one (.slv [3] (.int .u32))), .v (.one (.slo 1)), .v (.one (.slo 2)), .v (.one (.int .i64))], [.arr (.int .u32) [] true, .arr (.int .u32) [] true, .arr (.int .u32) [] true]⟩
def gq177.sh3e4 : SK := ⟨[.v (.one (.slo 0)), .v (.one (.slo 1))], [.arr (.int .u32) [] true, .arr (.int .u32) [] true]⟩
def gq177.ko3 : Ex → List CastAt × List Nat
 | .nrm => ([], [])
 | .ret => ([], [])
 | .ext i => cond (Nat.beq i 4) ([], [0, 11]) ([], [])
def gq177.G3 (n : Nat) (R : Type) (t : gq177.sh3.T) (K : Ex → Kp → Option R) : Option R := gq177.l3 (fun y0 y1 => K (.ext 4) (SK.enc gq177.sh3e4 (((), (), ()), (y0, y1, ())))) n t.1.2.1 t.1.2.2.2.2.1 t.2.1 t.2.2.1 t.2.2.2.1
def gq177.S3 : Sum := ⟨([], [0, 2, 6, 11, 12]), sumF gq177.sh3 (gq177.G3 fuel), gq177.ko3⟩
theorem gq177.ok3 (hE : EOk Tryz.prog (gq177.E)) : SumOk Tryz.prog gq177.E (cB (cR (cL (cR (cR (cR (cR (bodyOf Tryz.f177)))))))) (gq177.S3) := by
 have hh : HintOk Tryz.prog gq177.E (cB (cB (cR (cL (cR (cR (cR (cR (bodyOf Tryz.f177))))))))) (.a) := HintOk.n1 (Q := True) (by kernel_rfl) trivial
 have h := loopS (kin := ([], [0, 2, 6, 11, 12])) (kout := gq177.ko3) (sh := gq177.sh3) (F := gq177.G3) (ops_ok (hE.gv _)) (by kernel_rfl) hh (fun _ _ _ => rfl) (fun n R t K => by kernel_rfl) fuel
 exact HintOk.n1 (c := (cB (cR (cL (cR (cR (cR (cR (bodyOf Tryz.f177))))))))) (h := .s (gq177.S3)) (P := Tryz.prog) (E := gq177.E) (by kernel_rfl) h
def gq177.sh4 : SK := ⟨[.v (.one (.slo 0)), .v (.one (.slo 1)), .v (.one (.int .i64))], [.arr (.int .u32) [] true, .arr (.int .u32) [] true]⟩
def gq177.sh4e6 : SK := ⟨[], [.arr (.int .u32) [] true]⟩
def gq177.ko4 : Ex → List CastAt × List Nat
 | .nrm => ([], [])
 | .ret => ([], [])
 | .ext i => cond (Nat.beq i 6) ([], []) ([], [])
def gq177.G4 (n : Nat) (R : Type) (t : gq177.sh4.T) (K : Ex → Kp → Option R) : Option R := gq177.l4 (fun y0 => K (.ext 6) (SK.enc gq177.sh4e6 ((), (y0, ())))) n t.1.2.2.1 t.2.1 t.2.2.1
def gq177.S4 : Sum := ⟨([], [0, 11, 17]), sumF gq177.sh4 (gq177.G4 fuel), gq177.ko4⟩
theorem gq177.ok4 (hE : EOk Tryz.prog (gq177.E)) : SumOk Tryz.prog gq177.E (cB (cR (cR (cR (cR (cR (cR (bodyOf Tryz.f177)))))))) (gq177.S4) := by
 have hh : HintOk Tryz.prog gq177.E (cB (cB (cR (cR (cR (cR (cR (cR (bodyOf Tryz.f177))))))))) (.a) := HintOk.n1 (Q := True) (by kernel_rfl) trivial
 have h := loopS (kin := ([], [0, 11, 17])) (kout := gq177.ko4) (sh := gq177.sh4) (F := gq177.G4) (ops_ok (hE.gv _)) (by kernel_rfl) hh (fun _ _ _ => rfl) (fun n R t K => by kernel_rfl) fuel
 exact HintOk.n1 (c := (cB (cR (cR (cR (cR (cR (cR (bodyOf Tryz.f177))))))))) (h := .s (gq177.S4)) (P := Tryz.prog) (E := gq177.E) (by kernel_rfl) h
theorem gq177.hok (hE : EOk Tryz.prog (gq177.E)) : HintOk Tryz.prog gq177.E (bodyOf Tryz.f177) (.n (.a) (.n (.n (.a) (.b (.s (gq177.S1)))) (.n (.n (.a) (.b (.s (gq177.S2)))) (.n (.a) (.n (.n (.a) (.b (.s (gq177.S3)))) (.n (.a) (.b (.s (gq177.S4))))))))) := HintOk.n1 (Q := (True) ∧ (((True) ∧ (SumOk Tryz.prog gq177.E (cB (cR (cL (cR (bodyOf Tryz.f177))))) (gq177.S1))) ∧ (((True) ∧ (SumOk Tryz.prog gq177.E (cB (cR (cL (cR (cR (bodyOf Tryz.f177)))))) (gq177.S2))) ∧ ((True) ∧ (((True) ∧ (SumOk Tryz.prog gq177.E (cB (cR (cL (cR (cR (cR (cR (bodyOf Tryz.f177)))))))) (gq177.S3))) ∧ ((True) ∧ (SumOk Tryz.prog gq177.E (cB (cR (cR (cR (cR (cR (cR (bodyOf Tryz.f177)))))))) (gq177.S4)))))))) (by kernel_rfl) ⟨trivial, ⟨⟨trivial, (gq177.ok1 hE)⟩, ⟨⟨trivial, (gq177.ok2 hE)⟩, ⟨trivial, ⟨⟨trivial, (gq177.ok3 hE)⟩, ⟨trivial, (gq177.ok4 hE)⟩⟩⟩⟩⟩⟩
theorem gq177.hE : EOk Tryz.prog (gq177.E) := EOk.of ttOk (⟨gq242.fok, trivial⟩)
theorem gq177.fok : FOk Tryz.prog 177 gq177.fi :=
 fokS (E := gq177.E) (wy := ⟨[], [[], [], []], []⟩) (h := (fun gs => .n (.a) (.n (.n (.a) (.b (.s (gq177.S1)))) (.n (.n (.a) (.b (.s (gq177.S2)))) (.n (.a) (.n (.n (.a) (.b (.s (gq177.S3)))) (.n (.a) (.b (.s (gq177.S4)))))))))) (G := fun t g => gq177.F (fun y0 => g y0) t.1 t.2.1 t.2.2.1) (by kernel_rfl) gq177.hE Tryz.func177 (by kernel_rfl) rfl (Nat.le_refl _) (fun t => HintOk.n1 (by kernel_rfl) (gq177.hok gq177.hE)) (fun t g => gq177_nat g t.1 t.2.1 t.2.2.1) (fun t => by kernel_rfl)
def gq90.l1 {R : Type} (kke0 : List Int → List Int → List Int → Option R) : Nat → List Int → List Int → List Int → Option R
 | 0, _, _, _ => none
 | n + 1, b, h, all =>
  grd (gNz (64 : Int)) <|
  cond ((Int.tmod (List.length all : Int) (64 : Int)) != (56 : Int)) (
   grd (gRm (((List.length all) + (List.length [(0 : Int)])) * 1)) <|
   gq90.l1 kke0 n b h (all ++ [(0 : Int)])) (kke0 b h all)
theorem gq90.l1_nat {R S : Type} (g : R → Option S) (kke0 : List Int → List Int → List Int → Option R) : ∀ n b h all, gq90.l1 (fun y0 y1 y2 => (kke0 y0 y1 y2).bind g) n b h all = (gq90.l1 kke0 n b h all).bind g := by
 intro n
 induction n with
 | zero => intros; rfl
 | succ n ih => intros; simp only [gq90.l1, grd_bind, cnd_bind, bnd_bind, non_bind, ih]
def gq90.l2 {R : Type} (kke2 : List Int → List Int → Option R) : Nat → List Int → Int → List Int → List Int → Option R
 | 0, _, _, _, _ => none
 | n + 1, b, i, h, all =>
  cond (decide (i ≥ (0 : Int))) (
   grd (gSh (IntKind.wrap .u64 (IntKind.wrap .i64 ((8 : Int) * i)))) <|
   grd (gRm (((List.length all) + (List.length [IntKind.wrap .u8 (iShr .i64 (IntKind.wrap .i64 ((8 : Int) * (List.length b : Int))) (IntKind.wrap .u64 (IntKind.wrap .i64 ((8 : Int) * i))))])) * 1)) <|
   gq90.l2 kke2 n b (IntKind.wrap .i64 (i - (1 : Int))) h (all ++ [IntKind.wrap .u8 (iShr .i64 (IntKind.wrap .i64 ((8 : Int) * (List.length b : Int))) (IntKind.wrap .u64 (IntKind.wrap .i64 ((8 : Int) * i))))])) (kke2 h all)
theorem gq90.l2_nat {R S : Type} (g : R → Option S) (kke2 : List Int → List Int → Option R) : ∀ n b i h all, gq90.l2 (fun y0 y1 => (kke2 y0 y1).bind g) n b i h all = (gq90.l2 kke2 n b i h all).bind g := by
 intro n
 induction n with
 | zero => intros; rfl
 | succ n ih => intros; simp only [gq90.l2, grd_bind, cnd_bind, bnd_bind, non_bind, ih]
def gq90.l3 {R : Type} (kke4 : List Int → Option R) : Nat → List Int → Int → List Int → List Int → Option R
 | 0, _, _, _, _ => none
 | n + 1, all, i, h, k_ =>
  cond (decide (i < (List.length all : Int))) (
   grd (gSl i (IntKind.wrap .i64 (i + (64 : Int))) (List.length all)) <|
   (gq177 h (sub all i (IntKind.wrap .i64 (i + (64 : Int)))) k_).bind fun r =>
   gq90.l3 kke4 n all (IntKind.wrap .i64 (i + (64 : Int))) r k_) (kke4 h)
theorem gq90.l3_nat {R S : Type} (g : R → Option S) (kke4 : List Int → Option R) : ∀ n all i h k_, gq90.l3 (fun y0 => (kke4 y0).bind g) n all i h k_ = (gq90.l3 kke4 n all i h k_).bind g := by
 intro n
 induction n with
 | zero => intros; rfl
 | succ n ih => intros; simp only [gq90.l3, grd_bind, cnd_bind, bnd_bind, non_bind, ih]
def gq90.l4 {R : Type} (kke6 : List Int → Option R) : Nat → Int → List Int → List Int → Option R
 | 0, _, _, _ => none
 | n + 1, i, h, out =>
  cond (decide (i < (8 : Int))) (
   grd (gIx i (List.length h)) <|
   grd (gSh (24 : Int)) <|
   grd (gIx i (List.length h)) <|
   grd (gSh (16 : Int)) <|
   grd (gIx i (List.length h)) <|
   grd (gSh (8 : Int)) <|
   grd (gIx i (List.length h)) <|
   grd (gRm (((List.length out) + (List.length [IntKind.wrap .u8 (iShr .u32 (rdE (.int .u32 : Kd) h (Int.toNat i)) (24 : Int)), IntKind.wrap .u8 (iShr .u32 (rdE (.int .u32 : Kd) h (Int.toNat i)) (16 : Int)), IntKind.wrap .u8 (iShr .u32 (rdE (.int .u32 : Kd) h (Int.toNat i)) (8 : Int)), IntKind.wrap .u8 (rdE (.int .u32 : Kd) h (Int.toNat i))])) * 1)) <|
   gq90.l4 kke6 n (IntKind.wrap .i64 (i + (1 : Int))) h (out ++ [IntKind.wrap .u8 (iShr .u32 (rdE (.int .u32 : Kd) h (Int.toNat i)) (24 : Int)), IntKind.wrap .u8 (iShr .u32 (rdE (.int .u32 : Kd) h (Int.toNat i)) (16 : Int)), IntKind.wrap .u8 (iShr .u32 (rdE (.int .u32 : Kd) h (Int.toNat i)) (8 : Int)), IntKind.wrap .u8 (rdE (.int .u32 : Kd) h (Int.toNat i))])) (kke6 out)
theorem gq90.l4_nat {R S : Type} (g : R → Option S) (kke6 : List Int → Option R) : ∀ n i h out, gq90.l4 (fun y0 => (kke6 y0).bind g) n i h out = (gq90.l4 kke6 n i h out).bind g := by
 intro n
 induction n with
 | zero => intros; rfl
 | succ n ih => intros; simp only [gq90.l4, grd_bind, cnd_bind, bnd_bind, non_bind, ih]
def gq90.F {R : Type} (kk : ByteArray → Option R) (b : List Int) : Option R :=
 grd (gRm (((List.length ([] : List Int)) + (List.length b)) * 1)) <|
 grd (gRm (((List.length (([] : List Int) ++ b)) + (List.length [(128 : Int)])) * 1)) <|
 gq90.l1 (fun b1 h all =>
  gq90.l2 (fun h1 all1 =>
   (gq176).bind fun r =>
   gq90.l3 (fun h2 => gq90.l4 (fun out => kk (strL out)) fuel (0 : Int) h2 ([] : List Int)) fuel all1 (0 : Int) h1 r) fuel b1 (7 : Int) h all) fuel b [(1779033703 : Int), (3144134277 : Int), (1013904242 : Int), (2773480762 : Int), (1359893119 : Int), (2600822924 : Int), (528734635 : Int), (1541459225 : Int)] ((([] : List Int) ++ b) ++ [(128 : Int)])
theorem gq90.F_nat {R S : Type} (g : R → Option S) (kk : ByteArray → Option R) (b) : gq90.F (fun y0 => (kk y0).bind g) b = (gq90.F kk b).bind g := by
 simp only [gq90.F, grd_bind, cnd_bind, bnd_bind, non_bind, ← gq90.l1_nat, ← gq90.l2_nat, ← gq90.l3_nat, ← gq90.l4_nat]
theorem gq90_ex : ∃ f : List Int → Option ByteArray, f = fun (b : List Int) => gq90.F (fun y0 => some y0) b := ⟨_, rfl⟩
noncomputable def gq90 : List Int → Option ByteArray := Classical.choose gq90_ex
theorem gq90_eq (b : List Int) : gq90 b = gq90.F (fun y0 => some y0) b := (congrFun (Classical.choose_spec gq90_ex) b)
theorem gq90_nat {S : Type} (g : ByteArray → Option S) (b : List Int) : gq90.F (fun y0 => g y0) b = (gq90 b).bind g := by
 rw [gq90_eq]
 exact gq90.F_nat g (fun y0 => some y0) b
def gq90.out : ByteArray → CRes := fun a => ⟨encL SV.enc [.one (.str)] (a, ()), [encL SC.enc [] ()]⟩
def gq90.ps : List PS := [.val [some ((.int .u8), false)]]
def gq90.sA : List SA := [.v (.one (.slv [] (.int .u8)))]
def gq90.fi : FI := FIs gq90.sA (ByteArray) (fun t => gq90 t.1) gq90.out gq90.ps
def gq90.E : Env := ⟨tt, lkF [(176, gq176.fi), (177, gq177.fi)], 86, 0, [], [], []⟩
def gq90.sh1 : SK := ⟨[.v (.one (.slv [1] (.int .u8))), .v (.one (.slo 0)), .v (.one (.slo 1))], [.arr (.int .u32) [] true, .arr (.int .u8) [] true]⟩
def gq90.sh1e0 : SK := ⟨[.v (.one (.slv [1] (.int .u8))), .v (.one (.slo 0)), .v (.one (.slo 1))], [.arr (.int .u32) [] true, .arr (.int .u8) [] true]⟩
def gq90.ko1 : Ex → List CastAt × List Nat
 | .nrm => ([], [])
 | .ret => ([], [])
 | .ext i => cond (Nat.beq i 0) ([], [0, 3, 4]) ([], [])
def gq90.G1 (n : Nat) (R : Type) (t : gq90.sh1.T) (K : Ex → Kp → Option R) : Option R := gq90.l1 (fun y0 y1 y2 => K (.ext 0) (SK.enc gq90.sh1e0 ((y0, (), (), ()), (y1, y2, ())))) n t.1.1 t.2.1 t.2.2.1
def gq90.S1 : Sum := ⟨([], [0, 3, 4]), sumF gq90.sh1 (gq90.G1 fuel), gq90.ko1⟩
theorem gq90.ok1 (hE : EOk Tryz.prog (gq90.E)) : SumOk Tryz.prog gq90.E (cB (cL (cR (cR (cR (bodyOf Tryz.f90)))))) (gq90.S1) := by
 have hh : HintOk Tryz.prog gq90.E (cB (cB (cL (cR (cR (cR (bodyOf Tryz.f90))))))) (.a) := HintOk.n1 (Q := True) (by kernel_rfl) trivial
 have h := loopS (kin := ([], [0, 3, 4])) (kout := gq90.ko1) (sh := gq90.sh1) (F := gq90.G1) (ops_ok (hE.gv _)) (by kernel_rfl) hh (fun _ _ _ => rfl) (fun n R t K => by kernel_rfl) fuel
 exact HintOk.n1 (c := (cB (cL (cR (cR (cR (bodyOf Tryz.f90))))))) (h := .s (gq90.S1)) (P := Tryz.prog) (E := gq90.E) (by kernel_rfl) h
def gq90.sh2 : SK := ⟨[.v (.one (.slv [1] (.int .u8))), .v (.one (.slo 0)), .v (.one (.slo 1)), .v (.one (.int .i64))], [.arr (.int .u32) [] true, .arr (.int .u8) [] true]⟩
def gq90.sh2e2 : SK := ⟨[.v (.one (.slo 0)), .v (.one (.slo 1))], [.arr (.int .u32) [] true, .arr (.int .u8) [] true]⟩
def gq90.ko2 : Ex → List CastAt × List Nat
 | .nrm => ([], [])
 | .ret => ([], [])
 | .ext i => cond (Nat.beq i 2) ([], [3, 4]) ([], [])
def gq90.G2 (n : Nat) (R : Type) (t : gq90.sh2.T) (K : Ex → Kp → Option R) : Option R := gq90.l2 (fun y0 y1 => K (.ext 2) (SK.enc gq90.sh2e2 (((), (), ()), (y0, y1, ())))) n t.1.1 t.1.2.2.2.1 t.2.1 t.2.2.1
def gq90.S2 : Sum := ⟨([], [0, 3, 4, 5]), sumF gq90.sh2 (gq90.G2 fuel), gq90.ko2⟩
theorem gq90.ok2 (hE : EOk Tryz.prog (gq90.E)) : SumOk Tryz.prog gq90.E (cB (cR (cL (cR (cR (cR (cR (bodyOf Tryz.f90)))))))) (gq90.S2) := by
 have hh : HintOk Tryz.prog gq90.E (cB (cB (cR (cL (cR (cR (cR (cR (bodyOf Tryz.f90))))))))) (.a) := HintOk.n1 (Q := True) (by kernel_rfl) trivial
 have h := loopS (kin := ([], [0, 3, 4, 5])) (kout := gq90.ko2) (sh := gq90.sh2) (F := gq90.G2) (ops_ok (hE.gv _)) (by kernel_rfl) hh (fun _ _ _ => rfl) (fun n R t K => by kernel_rfl) fuel
 exact HintOk.n1 (c := (cB (cR (cL (cR (cR (cR (cR (bodyOf Tryz.f90))))))))) (h := .s (gq90.S2)) (P := Tryz.prog) (E := gq90.E) (by kernel_rfl) h
def gq90.sh3 : SK := ⟨[.v (.one (.slo 0)), .v (.one (.slv [0] (.int .u8))), .v (.one (.slo 1)), .v (.one (.int .i64))], [.arr (.int .u32) [] true, .arr (.int .u32) [] true]⟩
def gq90.sh3e4 : SK := ⟨[.v (.one (.slo 0))], [.arr (.int .u32) [] true]⟩
def gq90.ko3 : Ex → List CastAt × List Nat
 | .nrm => ([], [])
 | .ret => ([], [])
 | .ext i => cond (Nat.beq i 4) ([], [3]) ([], [])
def gq90.G3 (n : Nat) (R : Type) (t : gq90.sh3.T) (K : Ex → Kp → Option R) : Option R := gq90.l3 (fun y0 => K (.ext 4) (SK.enc gq90.sh3e4 (((), ()), (y0, ())))) n t.1.2.1 t.1.2.2.2.1 t.2.1 t.2.2.1
def gq90.S3 : Sum := ⟨([⟨4, false, 0, .slv [0] (.int .u8)⟩], [3, 4, 6, 7]), sumF gq90.sh3 (gq90.G3 fuel), gq90.ko3⟩
theorem gq90.ok3 (hE : EOk Tryz.prog (gq90.E)) : SumOk Tryz.prog gq90.E (cB (cR (cL (cR (cR (cR (cR (cR (cR (bodyOf Tryz.f90)))))))))) (gq90.S3) := by
 have hh : HintOk Tryz.prog gq90.E (cB (cB (cR (cL (cR (cR (cR (cR (cR (cR (bodyOf Tryz.f90))))))))))) (.a) := HintOk.n1 (Q := True) (by kernel_rfl) trivial
 have h := loopS (kin := ([⟨4, false, 0, .slv [0] (.int .u8)⟩], [3, 4, 6, 7])) (kout := gq90.ko3) (sh := gq90.sh3) (F := gq90.G3) (ops_ok (hE.gv _)) (by kernel_rfl) hh (fun _ _ _ => rfl) (fun n R t K => by kernel_rfl) fuel
 exact HintOk.n1 (c := (cB (cR (cL (cR (cR (cR (cR (cR (cR (bodyOf Tryz.f90))))))))))) (h := .s (gq90.S3)) (P := Tryz.prog) (E := gq90.E) (by kernel_rfl) h
def gq90.sh4 : SK := ⟨[.v (.one (.slo 0)), .v (.one (.slo 1)), .v (.one (.int .i64))], [.arr (.int .u32) [] true, .arr (.int .u8) [] true]⟩
def gq90.sh4e6 : SK := ⟨[.v (.one (.slo 0))], [.arr (.int .u8) [] true]⟩
def gq90.ko4 : Ex → List CastAt × List Nat
 | .nrm => ([], [])
 | .ret => ([], [])
 | .ext i => cond (Nat.beq i 6) ([], [8]) ([], [])
def gq90.G4 (n : Nat) (R : Type) (t : gq90.sh4.T) (K : Ex → Kp → Option R) : Option R := gq90.l4 (fun y0 => K (.ext 6) (SK.enc gq90.sh4e6 (((), ()), (y0, ())))) n t.1.2.2.1 t.2.1 t.2.2.1
def gq90.S4 : Sum := ⟨([], [3, 8, 9]), sumF gq90.sh4 (gq90.G4 fuel), gq90.ko4⟩
theorem gq90.ok4 (hE : EOk Tryz.prog (gq90.E)) : SumOk Tryz.prog gq90.E (cB (cR (cL (cR (cR (cR (cR (cR (cR (cR (cR (bodyOf Tryz.f90)))))))))))) (gq90.S4) := by
 have hh : HintOk Tryz.prog gq90.E (cB (cB (cR (cL (cR (cR (cR (cR (cR (cR (cR (cR (bodyOf Tryz.f90))))))))))))) (.a) := HintOk.n1 (Q := True) (by kernel_rfl) trivial
 have h := loopS (kin := ([], [3, 8, 9])) (kout := gq90.ko4) (sh := gq90.sh4) (F := gq90.G4) (ops_ok (hE.gv _)) (by kernel_rfl) hh (fun _ _ _ => rfl) (fun n R t K => by kernel_rfl) fuel
 exact HintOk.n1 (c := (cB (cR (cL (cR (cR (cR (cR (cR (cR (cR (cR (bodyOf Tryz.f90))))))))))))) (h := .s (gq90.S4)) (P := Tryz.prog) (E := gq90.E) (by kernel_rfl) h
theorem gq90.hok (hE : EOk Tryz.prog (gq90.E)) : HintOk Tryz.prog gq90.E (bodyOf Tryz.f90) (.n (.a) (.n (.a) (.n (.a) (.n (.b (.s (gq90.S1))) (.n (.n (.a) (.b (.s (gq90.S2)))) (.n (.a) (.n (.n (.a) (.b (.s (gq90.S3)))) (.n (.a) (.n (.n (.a) (.b (.s (gq90.S4)))) (.a)))))))))) := HintOk.n1 (Q := (True) ∧ ((True) ∧ ((True) ∧ ((SumOk Tryz.prog gq90.E (cB (cL (cR (cR (cR (bodyOf Tryz.f90)))))) (gq90.S1)) ∧ (((True) ∧ (SumOk Tryz.prog gq90.E (cB (cR (cL (cR (cR (cR (cR (bodyOf Tryz.f90)))))))) (gq90.S2))) ∧ ((True) ∧ (((True) ∧ (SumOk Tryz.prog gq90.E (cB (cR (cL (cR (cR (cR (cR (cR (cR (bodyOf Tryz.f90)))))))))) (gq90.S3))) ∧ ((True) ∧ (((True) ∧ (SumOk Tryz.prog gq90.E (cB (cR (cL (cR (cR (cR (cR (cR (cR (cR (cR (bodyOf Tryz.f90)))))))))))) (gq90.S4))) ∧ (True)))))))))) (by kernel_rfl) ⟨trivial, ⟨trivial, ⟨trivial, ⟨(gq90.ok1 hE), ⟨⟨trivial, (gq90.ok2 hE)⟩, ⟨trivial, ⟨⟨trivial, (gq90.ok3 hE)⟩, ⟨trivial, ⟨⟨trivial, (gq90.ok4 hE)⟩, trivial⟩⟩⟩⟩⟩⟩⟩⟩⟩
theorem gq90.hE : EOk Tryz.prog (gq90.E) := EOk.of ttOk (⟨gq176.fok, ⟨gq177.fok, trivial⟩⟩)
theorem gq90.fok : FOk Tryz.prog 90 gq90.fi :=
 fokS (E := gq90.E) (wy := ⟨[[none]], [[]], []⟩) (h := (fun gs => .n (.a) (.n (.a) (.n (.a) (.n (.b (.s (gq90.S1))) (.n (.n (.a) (.b (.s (gq90.S2)))) (.n (.a) (.n (.n (.a) (.b (.s (gq90.S3)))) (.n (.a) (.n (.n (.a) (.b (.s (gq90.S4)))) (.a))))))))))) (G := fun t g => gq90.F (fun y0 => g y0) t.1) (by kernel_rfl) gq90.hE Tryz.func90 (by kernel_rfl) rfl (Nat.le_refl _) (fun t => HintOk.n1 (by kernel_rfl) (gq90.hok gq90.hE)) (fun t g => gq90_nat g t.1) (fun t => by kernel_rfl)
def gq119.F {R : Type} (kk : ByteArray → Option R) (data : ByteArray) : Option R :=
 grd (gRm (((List.length [(0 : Int)]) + (List.length (bytesL data))) * 1)) <|
 (gq90 ([(0 : Int)] ++ (bytesL data))).bind fun r =>
 kk r
theorem gq119.F_nat {R S : Type} (g : R → Option S) (kk : ByteArray → Option R) (data) : gq119.F (fun y0 => (kk y0).bind g) data = (gq119.F kk data).bind g := by
 simp only [gq119.F, grd_bind, cnd_bind, bnd_bind, non_bind]
def gq119 (data : ByteArray) : Option ByteArray := gq119.F (fun y0 => some y0) data
def gq119.out : ByteArray → CRes := fun a => ⟨encL SV.enc [.one (.str)] (a, ()), [encL SC.enc [] ()]⟩
def gq119.ps : List PS := [.val [none]]
def gq119.sA : List SA := [.v (.one (.str))]
def gq119.fi : FI := FIs gq119.sA (ByteArray) (fun t => gq119 t.1) gq119.out gq119.ps
def gq119.E : Env := ⟨tt, lkF [(90, gq90.fi)], 7, 0, [], [], []⟩
theorem gq119.hok (hE : EOk Tryz.prog (gq119.E)) : HintOk Tryz.prog gq119.E (bodyOf Tryz.f119) (.a) := HintOk.n1 (Q := True) (by kernel_rfl) trivial
theorem gq119.hE : EOk Tryz.prog (gq119.E) := EOk.of ttOk (⟨gq90.fok, trivial⟩)
theorem gq119.fok : FOk Tryz.prog 119 gq119.fi :=
 fokS (E := gq119.E) (wy := ⟨[[none]], [[]], []⟩) (h := (fun gs => .a)) (G := fun t g => gq119.F (fun y0 => g y0) t.1) (by kernel_rfl) gq119.hE Tryz.func119 (by kernel_rfl) rfl (Nat.le_refl _) (fun t => HintOk.n1 (by kernel_rfl) (gq119.hok gq119.hE)) (fun t g => gq119.F_nat g (fun y0 => some y0) _) (fun t => by kernel_rfl)
def gq240.F {R : Type} (kk : Int → List Int → Int → Int → Option R) (s_code : List Int) (s_at : Int) (s_seed : Int) : Option R :=
 cond (decide ((IntKind.wrap .i64 (s_at + (1 : Int))) ≤ (List.length s_code : Int))) (
  grd (gIx (IntKind.wrap .i64 ((IntKind.wrap .i64 (s_at + (1 : Int))) - (1 : Int))) (List.length s_code)) <|
  grd (gNz (2147483648 : Int)) <|
  grd (gIx (IntKind.wrap .i64 ((IntKind.wrap .i64 (s_at + (1 : Int))) - (1 : Int))) (List.length s_code)) <|
  kk (IntKind.wrap .i64 (rdE (.int .u8 : Kd) s_code (Int.toNat (IntKind.wrap .i64 ((IntKind.wrap .i64 (s_at + (1 : Int))) - (1 : Int)))))) s_code (IntKind.wrap .i64 (s_at + (1 : Int))) (Int.tmod (IntKind.wrap .i64 ((IntKind.wrap .i64 ((IntKind.wrap .i64 (s_seed * (31 : Int))) + (IntKind.wrap .i64 (rdE (.int .u8 : Kd) s_code (Int.toNat (IntKind.wrap .i64 ((IntKind.wrap .i64 (s_at + (1 : Int))) - (1 : Int)))))))) + (7 : Int))) (2147483648 : Int))) (
  cond (decide ((IntKind.wrap .i64 (s_at + (1 : Int))) > (3000 : Int))) (kk (0 : Int) s_code (IntKind.wrap .i64 (s_at + (1 : Int))) s_seed) (
   grd (gNz (2147483648 : Int)) <|
   grd (gNz (65536 : Int)) <|
   grd (gNz (256 : Int)) <|
   kk (Int.tmod (IntKind.wrap .i64 (Int.tdiv (Int.tmod (IntKind.wrap .i64 ((IntKind.wrap .i64 (s_seed * (1103515245 : Int))) + (12345 : Int))) (2147483648 : Int)) (65536 : Int))) (256 : Int)) s_code (IntKind.wrap .i64 (s_at + (1 : Int))) (Int.tmod (IntKind.wrap .i64 ((IntKind.wrap .i64 (s_seed * (1103515245 : Int))) + (12345 : Int))) (2147483648 : Int))))
theorem gq240.F_nat {R S : Type} (g : R → Option S) (kk : Int → List Int → Int → Int → Option R) (s_code s_at s_seed) : gq240.F (fun y0 y1 y2 y3 => (kk y0 y1 y2 y3).bind g) s_code s_at s_seed = (gq240.F kk s_code s_at s_seed).bind g := by
 simp only [gq240.F, grd_bind, cnd_bind, bnd_bind, non_bind]
def gq240 (s_code : List Int) (s_at : Int) (s_seed : Int) : Option (Int × List Int × Int × Int) := gq240.F (fun y0 y1 y2 y3 => some (y0, y1, y2, y3)) s_code s_at s_seed
def gq240.out : (Int × List Int × Int × Int) → CRes := fun a => ⟨encL SV.enc [.one (.int .i64)] (a.1, ()), [encL SC.enc [.slv [1] (.int .u8), .int .i64, .int .i64] (a.2.1, a.2.2.1, a.2.2.2, ())]⟩
def gq240.ps : List PS := [.ptr [some ((.int .u8), false), none, none]]
def gq240.sA : List SA := [.ptr [.slv [] (.int .u8), .int .i64, .int .i64]]
def gq240.fi : FI := FIs gq240.sA (Int × List Int × Int × Int) (fun t => gq240 t.1.1 t.1.2.1 t.1.2.2.1) gq240.out gq240.ps
def gq240.E : Env := ⟨tt, lkF [], 76, 1, [], [], []⟩
theorem gq240.hok (hE : EOk Tryz.prog (gq240.E)) : HintOk Tryz.prog gq240.E (bodyOf Tryz.f240) (.a) := HintOk.n1 (Q := True) (by kernel_rfl) trivial
theorem gq240.hE : EOk Tryz.prog (gq240.E) := EOk.of ttOk (trivial)
theorem gq240.fok : FOk Tryz.prog 240 gq240.fi :=
 fokS (E := gq240.E) (wy := ⟨[[none]], [[some ((.int .u8), false), none, none]], []⟩) (h := (fun gs => .a)) (G := fun t g => gq240.F (fun y0 y1 y2 y3 => g (y0, y1, y2, y3)) t.1.1 t.1.2.1 t.1.2.2.1) (by kernel_rfl) gq240.hE Tryz.func240 (by kernel_rfl) rfl (Nat.le_refl _) (fun t => HintOk.n1 (by kernel_rfl) (gq240.hok gq240.hE)) (fun t g => gq240.F_nat g (fun y0 y1 y2 y3 => some (y0, y1, y2, y3)) _ _ _) (fun t => by kernel_rfl)
def gq171.F {R : Type} (kk : Int → List Int → Int → Int → Option R) (s_code : List Int) (s_at : Int) (s_seed : Int) (n_ : Int) : Option R :=
 cond (decide (n_ ≤ (1 : Int))) (kk (0 : Int) s_code s_at s_seed) (
  cond (decide (n_ ≤ (256 : Int))) (
   (gq240 s_code s_at s_seed).bind fun r =>
   grd (gNz n_) <|
   kk (Int.tmod r.1 n_) r.2.1 r.2.2.1 r.2.2.2) (
   (gq240 s_code s_at s_seed).bind fun r1 =>
   (gq240 r1.2.1 r1.2.2.1 r1.2.2.2).bind fun r2 =>
   (gq240 r2.2.1 r2.2.2.1 r2.2.2.2).bind fun r3 =>
   grd (gNz n_) <|
   kk (Int.tmod (IntKind.wrap .i64 ((IntKind.wrap .i64 ((IntKind.wrap .i64 (r1.1 * (65536 : Int))) + (IntKind.wrap .i64 (r2.1 * (256 : Int))))) + r3.1)) n_) r3.2.1 r3.2.2.1 r3.2.2.2))
theorem gq171.F_nat {R S : Type} (g : R → Option S) (kk : Int → List Int → Int → Int → Option R) (s_code s_at s_seed n_) : gq171.F (fun y0 y1 y2 y3 => (kk y0 y1 y2 y3).bind g) s_code s_at s_seed n_ = (gq171.F kk s_code s_at s_seed n_).bind g := by
 simp only [gq171.F, grd_bind, cnd_bind, bnd_bind, non_bind]
def gq171 (s_code : List Int) (s_at : Int) (s_seed : Int) (n_ : Int) : Option (Int × List Int × Int × Int) := gq171.F (fun y0 y1 y2 y3 => some (y0, y1, y2, y3)) s_code s_at s_seed n_
def gq171.out : (Int × List Int × Int × Int) → CRes := fun a => ⟨encL SV.enc [.one (.int .i64)] (a.1, ()), [encL SC.enc [.slv [1] (.int .u8), .int .i64, .int .i64] (a.2.1, a.2.2.1, a.2.2.2, ()), encL SC.enc [] ()]⟩
def gq171.ps : List PS := [.ptr [some ((.int .u8), false), none, none], .val [none]]
def gq171.sA : List SA := [.ptr [.slv [] (.int .u8), .int .i64, .int .i64], .v (.one (.int .i64))]
def gq171.fi : FI := FIs gq171.sA (Int × List Int × Int × Int) (fun t => gq171 t.1.1 t.1.2.1 t.1.2.2.1 t.2.1) gq171.out gq171.ps
def gq171.E : Env := ⟨tt, lkF [(240, gq240.fi)], 31, 1, [], [], []⟩
theorem gq171.hok (hE : EOk Tryz.prog (gq171.E)) : HintOk Tryz.prog gq171.E (bodyOf Tryz.f171) (.a) := HintOk.n1 (Q := True) (by kernel_rfl) trivial
theorem gq171.hE : EOk Tryz.prog (gq171.E) := EOk.of ttOk (⟨gq240.fok, trivial⟩)
theorem gq171.fok : FOk Tryz.prog 171 gq171.fi :=
 fokS (E := gq171.E) (wy := ⟨[[none]], [[some ((.int .u8), false), none, none], []], []⟩) (h := (fun gs => .a)) (G := fun t g => gq171.F (fun y0 y1 y2 y3 => g (y0, y1, y2, y3)) t.1.1 t.1.2.1 t.1.2.2.1 t.2.1) (by kernel_rfl) gq171.hE Tryz.func171 (by kernel_rfl) rfl (Nat.le_refl _) (fun t => HintOk.n1 (by kernel_rfl) (gq171.hok gq171.hE)) (fun t g => gq171.F_nat g (fun y0 y1 y2 y3 => some (y0, y1, y2, y3)) _ _ _ _) (fun t => by kernel_rfl)
def gq172.F {R : Type} (kk : Bool → List Int → Int → Int → Option R) (s_code : List Int) (s_at : Int) (s_seed : Int) (n_ : Int) : Option R :=
 (gq171 s_code s_at s_seed n_).bind fun r =>
 kk (r.1 == (IntKind.wrap .i64 (n_ - (1 : Int)))) r.2.1 r.2.2.1 r.2.2.2
theorem gq172.F_nat {R S : Type} (g : R → Option S) (kk : Bool → List Int → Int → Int → Option R) (s_code s_at s_seed n_) : gq172.F (fun y0 y1 y2 y3 => (kk y0 y1 y2 y3).bind g) s_code s_at s_seed n_ = (gq172.F kk s_code s_at s_seed n_).bind g := by
 simp only [gq172.F, grd_bind, cnd_bind, bnd_bind, non_bind]
def gq172 (s_code : List Int) (s_at : Int) (s_seed : Int) (n_ : Int) : Option (Bool × List Int × Int × Int) := gq172.F (fun y0 y1 y2 y3 => some (y0, y1, y2, y3)) s_code s_at s_seed n_
def gq172.out : (Bool × List Int × Int × Int) → CRes := fun a => ⟨encL SV.enc [.one (.bool)] (a.1, ()), [encL SC.enc [.slv [1] (.int .u8), .int .i64, .int .i64] (a.2.1, a.2.2.1, a.2.2.2, ()), encL SC.enc [] ()]⟩
def gq172.ps : List PS := [.ptr [some ((.int .u8), false), none, none], .val [none]]
def gq172.sA : List SA := [.ptr [.slv [] (.int .u8), .int .i64, .int .i64], .v (.one (.int .i64))]
def gq172.fi : FI := FIs gq172.sA (Bool × List Int × Int × Int) (fun t => gq172 t.1.1 t.1.2.1 t.1.2.2.1 t.2.1) gq172.out gq172.ps
def gq172.E : Env := ⟨tt, lkF [(171, gq171.fi)], 11, 1, [], [], []⟩
theorem gq172.hok (hE : EOk Tryz.prog (gq172.E)) : HintOk Tryz.prog gq172.E (bodyOf Tryz.f172) (.a) := HintOk.n1 (Q := True) (by kernel_rfl) trivial
theorem gq172.hE : EOk Tryz.prog (gq172.E) := EOk.of ttOk (⟨gq171.fok, trivial⟩)
theorem gq172.fok : FOk Tryz.prog 172 gq172.fi :=
 fokS (E := gq172.E) (wy := ⟨[[none]], [[some ((.int .u8), false), none, none], []], []⟩) (h := (fun gs => .a)) (G := fun t g => gq172.F (fun y0 y1 y2 y3 => g (y0, y1, y2, y3)) t.1.1 t.1.2.1 t.1.2.2.1 t.2.1) (by kernel_rfl) gq172.hE Tryz.func172 (by kernel_rfl) rfl (Nat.le_refl _) (fun t => HintOk.n1 (by kernel_rfl) (gq172.hok gq172.hE)) (fun t g => gq172.F_nat g (fun y0 y1 y2 y3 => some (y0, y1, y2, y3)) _ _ _ _) (fun t => by kernel_rfl)
def gq85.l1 {R : Type} (kke0 : List Int → Int → Int → List ByteArray → Option R) : Nat → Int → List Int → Int → Int → List ByteArray → Option R
 | 0, _, _, _, _, _ => none
 | n + 1, i, s, s1, s2, out =>
  cond (decide (i > (0 : Int))) (
   (gq171 s s1 s2 (3 : Int)).bind fun r =>
   (gq119 (strL [IntKind.wrap .u8 i, IntKind.wrap .u8 r.1])).bind fun r1 =>
   grd (gRm (((List.length out) + (List.length [r1])) * 16)) <|
   gq85.l1 kke0 n (IntKind.wrap .i64 (i - (1 : Int))) r.2.1 r.2.2.1 r.2.2.2 (out ++ [r1])) (kke0 s s1 s2 out)
theorem gq85.l1_nat {R S : Type} (g : R → Option S) (kke0 : List Int → Int → Int → List ByteArray → Option R) : ∀ n i s s1 s2 out, gq85.l1 (fun y0 y1 y2 y3 => (kke0 y0 y1 y2 y3).bind g) n i s s1 s2 out = (gq85.l1 kke0 n i s s1 s2 out).bind g := by
 intro n
 induction n with
 | zero => intros; rfl
 | succ n ih => intros; simp only [gq85.l1, grd_bind, cnd_bind, bnd_bind, non_bind, ih]
def gq85.l2 {R : Type} (kke2 : List Int → Int → Int → List ByteArray → Option R) : Nat → List Int → Int → Int → List ByteArray → Option R
 | 0, _, _, _, _ => none
 | n + 1, s, s1, s2, out =>
  (gq171 s s1 s2 (2 : Int)).bind fun r =>
  cond (decide ((List.length out : Int) < (IntKind.wrap .i64 ((64 : Int) + r.1)))) (
   grd (gSl (0 : Int) (mn2 (1 : Int) (List.length out : Int)) (List.length out)) <|
   grd (gRm (((List.length out) + (List.length (sub out (0 : Int) (mn2 (1 : Int) (List.length out : Int))))) * 16)) <|
   cond ((List.length (out ++ (sub out (0 : Int) (mn2 (1 : Int) (List.length out : Int)))) : Int) == (0 : Int)) (
    (gq119 ByteArray.empty).bind fun r1 =>
    grd (gRm (((List.length (out ++ (sub out (0 : Int) (mn2 (1 : Int) (List.length out : Int))))) + (List.length [r1])) * 16)) <|
    gq85.l2 kke2 n r.2.1 r.2.2.1 r.2.2.2 ((out ++ (sub out (0 : Int) (mn2 (1 : Int) (List.length out : Int)))) ++ [r1])) (
    gq85.l2 kke2 n r.2.1 r.2.2.1 r.2.2.2 (out ++ (sub out (0 : Int) (mn2 (1 : Int) (List.length out : Int)))))) (kke2 r.2.1 r.2.2.1 r.2.2.2 out)
theorem gq85.l2_nat {R S : Type} (g : R → Option S) (kke2 : List Int → Int → Int → List ByteArray → Option R) : ∀ n s s1 s2 out, gq85.l2 (fun y0 y1 y2 y3 => (kke2 y0 y1 y2 y3).bind g) n s s1 s2 out = (gq85.l2 kke2 n s s1 s2 out).bind g := by
 intro n
 induction n with
 | zero => intros; rfl
 | succ n ih => intros; simp only [gq85.l2, grd_bind, cnd_bind, bnd_bind, non_bind, ih]
def gq85.F {R : Type} (kk : List ByteArray → List Int → Int → Int → Option R) (s_code : List Int) (s_at : Int) (s_seed : Int) : Option R :=
 (gq171 s_code s_at s_seed (3 : Int)).bind fun r =>
 grd (gIx r.1 (List.length [(4 : Int), (10 : Int), (20 : Int)])) <|
 (gq171 r.2.1 r.2.2.1 r.2.2.2 (rdE (.int .i64 : Kd) [(4 : Int), (10 : Int), (20 : Int)] (Int.toNat r.1))).bind fun r1 =>
 gq85.l1 (fun s s1 s2 out =>
  (gq172 s s1 s2 (40 : Int)).bind fun r2 =>
  cond (r2.1) (gq85.l2 (fun s3 s4 s5 out1 => kk out1 s3 s4 s5) fuel r2.2.1 r2.2.2.1 r2.2.2.2 out) (kk out r2.2.1 r2.2.2.1 r2.2.2.2)) fuel r1.1 r1.2.1 r1.2.2.1 r1.2.2.2 ([] : List ByteArray)
theorem gq85.F_nat {R S : Type} (g : R → Option S) (kk : List ByteArray → List Int → Int → Int → Option R) (s_code s_at s_seed) : gq85.F (fun y0 y1 y2 y3 => (kk y0 y1 y2 y3).bind g) s_code s_at s_seed = (gq85.F kk s_code s_at s_seed).bind g := by
 simp only [gq85.F, grd_bind, cnd_bind, bnd_bind, non_bind, ← gq85.l1_nat, ← gq85.l2_nat]
def gq85 (s_code : List Int) (s_at : Int) (s_seed : Int) : Option (List ByteArray × List Int × Int × Int) := gq85.F (fun y0 y1 y2 y3 => some (y0, y1, y2, y3)) s_code s_at s_seed
def gq85.out : (List ByteArray × List Int × Int × Int) → CRes := fun a => ⟨encL SV.enc [.one (.slv [0] .str)] (a.1, ()), [encL SC.enc [.slv [1] (.int .u8), .int .i64, .int .i64] (a.2.1, a.2.2.1, a.2.2.2, ())]⟩
def gq85.ps : List PS := [.ptr [some ((.int .u8), false), none, none]]
def gq85.sA : List SA := [.ptr [.slv [] (.int .u8), .int .i64, .int .i64]]
def gq85.fi : FI := FIs gq85.sA (List ByteArray × List Int × Int × Int) (fun t => gq85 t.1.1 t.1.2.1 t.1.2.2.1) gq85.out gq85.ps
def gq85.E : Env := ⟨tt, lkF [(119, gq119.fi), (171, gq171.fi), (172, gq172.fi)], 51, 1, [], [], []⟩
def gq85.sh1 : SK := ⟨[.v (.one (.bptr 0 0)), .v (.one (.slo 1)), .v (.one (.int .i64))], [.box [.slv [1] (.int .u8), .int .i64, .int .i64], .arr .str [] true]⟩
def gq85.sh1e0 : SK := ⟨[.v (.one (.bptr 0 0)), .v (.one (.slo 1))], [.box [.slv [1] (.int .u8), .int .i64, .int .i64], .arr .str [] true]⟩
def gq85.ko1 : Ex → List CastAt × List Nat
 | .nrm => ([], [])
 | .ret => ([], [])
 | .ext i => cond (Nat.beq i 0) ([], [0, 3]) ([], [])
def gq85.G1 (n : Nat) (R : Type) (t : gq85.sh1.T) (K : Ex → Kp → Option R) : Option R := gq85.l1 (fun y0 y1 y2 y3 => K (.ext 0) (SK.enc gq85.sh1e0 (((), (), ()), ((y0, y1, y2, ()), y3, ())))) n t.1.2.2.1 t.2.1.1 t.2.1.2.1 t.2.1.2.2.1 t.2.2.1
def gq85.S1 : Sum := ⟨([], [0, 3, 4]), sumF gq85.sh1 (gq85.G1 fuel), gq85.ko1⟩
theorem gq85.ok1 (hE : EOk Tryz.prog (gq85.E)) : SumOk Tryz.prog gq85.E (cB (cR (cL (cR (cR (bodyOf Tryz.f85)))))) (gq85.S1) := by
 have hh : HintOk Tryz.prog gq85.E (cB (cB (cR (cL (cR (cR (bodyOf Tryz.f85))))))) (.a) := HintOk.n1 (Q := True) (by kernel_rfl) trivial
 have h := loopS (kin := ([], [0, 3, 4])) (kout := gq85.ko1) (sh := gq85.sh1) (F := gq85.G1) (ops_ok (hE.gv _)) (by kernel_rfl) hh (fun _ _ _ => rfl) (fun n R t K => by kernel_rfl) fuel
 exact HintOk.n1 (c := (cB (cR (cL (cR (cR (bodyOf Tryz.f85))))))) (h := .s (gq85.S1)) (P := Tryz.prog) (E := gq85.E) (by kernel_rfl) h
def gq85.sh2 : SK := ⟨[.v (.one (.bptr 0 0)), .v (.one (.slo 1))], [.box [.slv [1] (.int .u8), .int .i64, .int .i64], .arr .str [] false]⟩
def gq85.sh2e2 : SK := ⟨[.v (.one (.bptr 0 0)), .v (.one (.slo 1))], [.box [.slv [1] (.int .u8), .int .i64, .int .i64], .arr .str [] false]⟩
def gq85.ko2 : Ex → List CastAt × List Nat
 | .nrm => ([], [])
 | .ret => ([], [])
 | .ext i => cond (Nat.beq i 2) ([], [0, 3]) ([], [])
def gq85.G2 (n : Nat) (R : Type) (t : gq85.sh2.T) (K : Ex → Kp → Option R) : Option R := gq85.l2 (fun y0 y1 y2 y3 => K (.ext 2) (SK.enc gq85.sh2e2 (((), (), ()), ((y0, y1, y2, ()), y3, ())))) n t.2.1.1 t.2.1.2.1 t.2.1.2.2.1 t.2.2.1
def gq85.S2 : Sum := ⟨([⟨3, false, 0, .frz []⟩], [0, 3]), sumF gq85.sh2 (gq85.G2 fuel), gq85.ko2⟩
theorem gq85.ok2 (hE : EOk Tryz.prog (gq85.E)) : SumOk Tryz.prog gq85.E (cB (cL (cR (cL (cR (cR (cR (bodyOf Tryz.f85)))))))) (gq85.S2) := by
 have hh : HintOk Tryz.prog gq85.E (cB (cB (cL (cR (cL (cR (cR (cR (bodyOf Tryz.f85))))))))) (.a) := HintOk.n1 (Q := True) (by kernel_rfl) trivial
 have h := loopS (kin := ([⟨3, false, 0, .frz []⟩], [0, 3])) (kout := gq85.ko2) (sh := gq85.sh2) (F := gq85.G2) (ops_ok (hE.gv _)) (by kernel_rfl) hh (fun _ _ _ => rfl) (fun n R t K => by kernel_rfl) fuel
 exact HintOk.n1 (c := (cB (cL (cR (cL (cR (cR (cR (bodyOf Tryz.f85))))))))) (h := .s (gq85.S2)) (P := Tryz.prog) (E := gq85.E) (by kernel_rfl) h
theorem gq85.hok (hE : EOk Tryz.prog (gq85.E)) : HintOk Tryz.prog gq85.E (bodyOf Tryz.f85) (.n (.a) (.n (.a) (.n (.n (.a) (.b (.s (gq85.S1)))) (.n (.n (.a) (.n (.b (.s (gq85.S2))) (.a))) (.a))))) := HintOk.n1 (Q := (True) ∧ ((True) ∧ (((True) ∧ (SumOk Tryz.prog gq85.E (cB (cR (cL (cR (cR (bodyOf Tryz.f85)))))) (gq85.S1))) ∧ (((True) ∧ ((SumOk Tryz.prog gq85.E (cB (cL (cR (cL (cR (cR (cR (bodyOf Tryz.f85)))))))) (gq85.S2)) ∧ (True))) ∧ (True))))) (by kernel_rfl) ⟨trivial, ⟨trivial, ⟨⟨trivial, (gq85.ok1 hE)⟩, ⟨⟨trivial, ⟨(gq85.ok2 hE), trivial⟩⟩, trivial⟩⟩⟩⟩
theorem gq85.hE : EOk Tryz.prog (gq85.E) := EOk.of ttOk (⟨gq119.fok, ⟨gq171.fok, ⟨gq172.fok, trivial⟩⟩⟩)
theorem gq85.fok : FOk Tryz.prog 85 gq85.fi :=
 fokS (E := gq85.E) (wy := ⟨[[some (.str, false)]], [[some ((.int .u8), false), none, none]], [⟨2, false, 0, .slv [0] .str⟩]⟩) (h := (fun gs => .n (.a) (.n (.a) (.n (.n (.a) (.b (.s (gq85.S1)))) (.n (.n (.a) (.n (.b (.s (gq85.S2))) (.a))) (.a)))))) (G := fun t g => gq85.F (fun y0 y1 y2 y3 => g (y0, y1, y2, y3)) t.1.1 t.1.2.1 t.1.2.2.1) (by kernel_rfl) gq85.hE Tryz.func85 (by kernel_rfl) rfl (Nat.le_refl _) (fun t => HintOk.n1 (by kernel_rfl) (gq85.hok gq85.hE)) (fun t g => gq85.F_nat g (fun y0 y1 y2 y3 => some (y0, y1, y2, y3)) _ _ _) (fun t => by kernel_rfl)
def gq22.F {R : Type} (kk : List ByteArray → Option R) (code : List Int) : Option R :=
 (gq84 code).bind fun r =>
 (gq85 r.1 r.2.1 r.2.2).bind fun r1 =>
 grd (gSl (0 : Int) (mn2 (40 : Int) (List.length r1.1 : Int)) (List.length r1.1)) <|
 kk (sub r1.1 (0 : Int) (mn2 (40 : Int) (List.length r1.1 : Int)))
theorem gq22.F_nat {R S : Type} (g : R → Option S) (kk : List ByteArray → Option R) (code) : gq22.F (fun y0 => (kk y0).bind g) code = (gq22.F kk code).bind g := by
 simp only [gq22.F, grd_bind, cnd_bind, bnd_bind, non_bind]
def gq22 (code : List Int) : Option (List ByteArray) := gq22.F (fun y0 => some y0) code
def gq22.out : (List ByteArray) → CRes := fun a => ⟨encL SV.enc [.one (.slv [0] .str)] (a, ()), [encL SC.enc [] ()]⟩
def gq22.ps : List PS := [.val [some ((.int .u8), false)]]
def gq22.sA : List SA := [.v (.one (.slv [] (.int .u8)))]
def gq22.fi : FI := FIs gq22.sA (List ByteArray) (fun t => gq22 t.1) gq22.out gq22.ps
def gq22.E : Env := ⟨tt, lkF [(84, gq84.fi), (85, gq85.fi)], 12, 0, [], [], []⟩
theorem gq22.hok (hE : EOk Tryz.prog (gq22.E)) : HintOk Tryz.prog gq22.E (bodyOf Tryz.f22) (.a) := HintOk.n1 (Q := True) (by kernel_rfl) trivial
theorem gq22.hE : EOk Tryz.prog (gq22.E) := EOk.of ttOk (⟨gq84.fok, ⟨gq85.fok, trivial⟩⟩)
theorem gq22.fok : FOk Tryz.prog 22 gq22.fi :=
 fokS (E := gq22.E) (wy := ⟨[[some (.str, false)]], [[]], []⟩) (h := (fun gs => .a)) (G := fun t g => gq22.F (fun y0 => g y0) t.1) (by kernel_rfl) gq22.hE Tryz.func22 (by kernel_rfl) rfl (Nat.le_refl _) (fun t => HintOk.n1 (by kernel_rfl) (gq22.hok gq22.hE)) (fun t g => gq22.F_nat g (fun y0 => some y0) _) (fun t => by kernel_rfl)
def gq86.F {R : Type} (kk : ByteArray → List Int → Int → Int → Option R) (s_code : List Int) (s_at : Int) (s_seed : Int) : Option R :=
 (gq171 s_code s_at s_seed (256 : Int)).bind fun r =>
 (gq171 r.2.1 r.2.2.1 r.2.2.2 (4 : Int)).bind fun r1 =>
 (gq90 [IntKind.wrap .u8 r.1, IntKind.wrap .u8 r1.1]).bind fun r2 =>
 kk r2 r1.2.1 r1.2.2.1 r1.2.2.2
theorem gq86.F_nat {R S : Type} (g : R → Option S) (kk : ByteArray → List Int → Int → Int → Option R) (s_code s_at s_seed) : gq86.F (fun y0 y1 y2 y3 => (kk y0 y1 y2 y3).bind g) s_code s_at s_seed = (gq86.F kk s_code s_at s_seed).bind g := by
 simp only [gq86.F, grd_bind, cnd_bind, bnd_bind, non_bind]
def gq86 (s_code : List Int) (s_at : Int) (s_seed : Int) : Option (ByteArray × List Int × Int × Int) := gq86.F (fun y0 y1 y2 y3 => some (y0, y1, y2, y3)) s_code s_at s_seed
def gq86.out : (ByteArray × List Int × Int × Int) → CRes := fun a => ⟨encL SV.enc [.one (.str)] (a.1, ()), [encL SC.enc [.slv [1] (.int .u8), .int .i64, .int .i64] (a.2.1, a.2.2.1, a.2.2.2, ())]⟩
def gq86.ps : List PS := [.ptr [some ((.int .u8), false), none, none]]
def gq86.sA : List SA := [.ptr [.slv [] (.int .u8), .int .i64, .int .i64]]
def gq86.fi : FI := FIs gq86.sA (ByteArray × List Int × Int × Int) (fun t => gq86 t.1.1 t.1.2.1 t.1.2.2.1) gq86.out gq86.ps
def gq86.E : Env := ⟨tt, lkF [(90, gq90.fi), (171, gq171.fi)], 11, 1, [], [], []⟩
theorem gq86.hok (hE : EOk Tryz.prog (gq86.E)) : HintOk Tryz.prog gq86.E (bodyOf Tryz.f86) (.a) := HintOk.n1 (Q := True) (by kernel_rfl) trivial
theorem gq86.hE : EOk Tryz.prog (gq86.E) := EOk.of ttOk (⟨gq90.fok, ⟨gq171.fok, trivial⟩⟩)
theorem gq86.fok : FOk Tryz.prog 86 gq86.fi :=
 fokS (E := gq86.E) (wy := ⟨[[none]], [[some ((.int .u8), false), none, none]], []⟩) (h := (fun gs => .a)) (G := fun t g => gq86.F (fun y0 y1 y2 y3 => g (y0, y1, y2, y3)) t.1.1 t.1.2.1 t.1.2.2.1) (by kernel_rfl) gq86.hE Tryz.func86 (by kernel_rfl) rfl (Nat.le_refl _) (fun t => HintOk.n1 (by kernel_rfl) (gq86.hok gq86.hE)) (fun t g => gq86.F_nat g (fun y0 y1 y2 y3 => some (y0, y1, y2, y3)) _ _ _) (fun t => by kernel_rfl)
def gq23.F {R : Type} (kk : ByteArray → Option R) (code : List Int) : Option R :=
 (gq84 code).bind fun r =>
 (gq86 r.1 r.2.1 r.2.2).bind fun r1 =>
 kk r1.1
theorem gq23.F_nat {R S : Type} (g : R → Option S) (kk : ByteArray → Option R) (code) : gq23.F (fun y0 => (kk y0).bind g) code = (gq23.F kk code).bind g := by
 simp only [gq23.F, grd_bind, cnd_bind, bnd_bind, non_bind]
def gq23 (code : List Int) : Option ByteArray := gq23.F (fun y0 => some y0) code
def gq23.out : ByteArray → CRes := fun a => ⟨encL SV.enc [.one (.str)] (a, ()), [encL SC.enc [] ()]⟩
def gq23.ps : List PS := [.val [some ((.int .u8), false)]]
def gq23.sA : List SA := [.v (.one (.slv [] (.int .u8)))]
def gq23.fi : FI := FIs gq23.sA (ByteArray) (fun t => gq23 t.1) gq23.out gq23.ps
def gq23.E : Env := ⟨tt, lkF [(84, gq84.fi), (86, gq86.fi)], 6, 0, [], [], []⟩
theorem gq23.hok (hE : EOk Tryz.prog (gq23.E)) : HintOk Tryz.prog gq23.E (bodyOf Tryz.f23) (.a) := HintOk.n1 (Q := True) (by kernel_rfl) trivial
theorem gq23.hE : EOk Tryz.prog (gq23.E) := EOk.of ttOk (⟨gq84.fok, ⟨gq86.fok, trivial⟩⟩)
theorem gq23.fok : FOk Tryz.prog 23 gq23.fi :=
 fokS (E := gq23.E) (wy := ⟨[[none]], [[]], []⟩) (h := (fun gs => .a)) (G := fun t g => gq23.F (fun y0 => g y0) t.1) (by kernel_rfl) gq23.hE Tryz.func23 (by kernel_rfl) rfl (Nat.le_refl _) (fun t => HintOk.n1 (by kernel_rfl) (gq23.hok gq23.hE)) (fun t g => gq23.F_nat g (fun y0 => some y0) _) (fun t => by kernel_rfl)
def gq173.l1 {R : Type} (kke0 : Int → Option R) : Nat → Int → Int → Option R
 | 0, _, _ => none
 | n + 1, n_, k_ =>
  cond (decide ((IntKind.wrap .i64 ((2 : Int) * k_)) < n_)) (gq173.l1 kke0 n n_ (IntKind.wrap .i64 (k_ * (2 : Int)))) (kke0 k_)
theorem gq173.l1_nat {R S : Type} (g : R → Option S) (kke0 : Int → Option R) : ∀ n n_ k_, gq173.l1 (fun y0 => (kke0 y0).bind g) n n_ k_ = (gq173.l1 kke0 n n_ k_).bind g := by
 intro n
 induction n with
 | zero => intros; rfl
 | succ n ih => intros; simp only [gq173.l1, grd_bind, cnd_bind, bnd_bind, non_bind, ih]
def gq173.F {R : Type} (kk : Int → Option R) (n_ : Int) : Option R :=
 gq173.l1 (fun k_ => kk k_) fuel n_ (1 : Int)
theorem gq173.F_nat {R S : Type} (g : R → Option S) (kk : Int → Option R) (n_) : gq173.F (fun y0 => (kk y0).bind g) n_ = (gq173.F kk n_).bind g := by
 simp only [gq173.F, grd_bind, cnd_bind, bnd_bind, non_bind, ← gq173.l1_nat]
def gq173 (n_ : Int) : Option Int := gq173.F (fun y0 => some y0) n_
def gq173.out : Int → CRes := fun a => ⟨encL SV.enc [.one (.int .i64)] (a, ()), [encL SC.enc [] ()]⟩
def gq173.ps : List PS := [.val [none]]
def gq173.sA : List SA := [.v (.one (.int .i64))]
def gq173.fi : FI := FIs gq173.sA (Int) (fun t => gq173 t.1) gq173.out gq173.ps
def gq173.E : Env := ⟨tt, lkF [], 11, 0, [], [], []⟩
def gq173.sh1 : SK := ⟨[.v (.one (.int .i64)), .v (.one (.int .i64))], []⟩
def gq173.sh1e0 : SK := ⟨[.v (.one (.int .i64))], []⟩
def gq173.ko1 : Ex → List CastAt × List Nat
 | .nrm => ([], [])
 | .ret => ([], [])
 | .ext i => cond (Nat.beq i 0) ([], [3]) ([], [])
def gq173.G1 (n : Nat) (R : Type) (t : gq173.sh1.T) (K : Ex → Kp → Option R) : Option R := gq173.l1 (fun y0 => K (.ext 0) (SK.enc gq173.sh1e0 ((y0, ()), ()))) n t.1.1 t.1.2.1
def gq173.S1 : Sum := ⟨([], [0, 3]), sumF gq173.sh1 (gq173.G1 fuel), gq173.ko1⟩
theorem gq173.ok1 (hE : EOk Tryz.prog (gq173.E)) : SumOk Tryz.prog gq173.E (cB (cL (cR (cR (bodyOf Tryz.f173))))) (gq173.S1) := by
 have hh : HintOk Tryz.prog gq173.E (cB (cB (cL (cR (cR (bodyOf Tryz.f173)))))) (.a) := HintOk.n1 (Q := True) (by kernel_rfl) trivial
 have h := loopS (kin := ([], [0, 3])) (kout := gq173.ko1) (sh := gq173.sh1) (F := gq173.G1) (ops_ok (hE.gv _)) (by kernel_rfl) hh (fun _ _ _ => rfl) (fun n R t K => by kernel_rfl) fuel
 exact HintOk.n1 (c := (cB (cL (cR (cR (bodyOf Tryz.f173)))))) (h := .s (gq173.S1)) (P := Tryz.prog) (E := gq173.E) (by kernel_rfl) h
theorem gq173.hok (hE : EOk Tryz.prog (gq173.E)) : HintOk Tryz.prog gq173.E (bodyOf Tryz.f173) (.n (.a) (.n (.a) (.n (.b (.s (gq173.S1))) (.a)))) := HintOk.n1 (Q := (True) ∧ ((True) ∧ ((SumOk Tryz.prog gq173.E (cB (cL (cR (cR (bodyOf Tryz.f173))))) (gq173.S1)) ∧ (True)))) (by kernel_rfl) ⟨trivial, ⟨trivial, ⟨(gq173.ok1 hE), trivial⟩⟩⟩
theorem gq173.hE : EOk Tryz.prog (gq173.E) := EOk.of ttOk (trivial)
theorem gq173.fok : FOk Tryz.prog 173 gq173.fi :=
 fokS (E := gq173.E) (wy := ⟨[[none]], [[]], []⟩) (h := (fun gs => .n (.a) (.n (.a) (.n (.b (.s (gq173.S1))) (.a))))) (G := fun t g => gq173.F (fun y0 => g y0) t.1) (by kernel_rfl) gq173.hE Tryz.func173 (by kernel_rfl) rfl (Nat.le_refl _) (fun t => HintOk.n1 (by kernel_rfl) (gq173.hok gq173.hE)) (fun t g => gq173.F_nat g (fun y0 => some y0) _) (fun t => by kernel_rfl)
def gq174.F {R : Type} (kk : ByteArray → Option R) (a : ByteArray) (b : ByteArray) : Option R :=
 grd (gRm (((List.length [(1 : Int)]) + (List.length (bytesL a))) * 1)) <|
 grd (gRm (((List.length ([(1 : Int)] ++ (bytesL a))) + (List.length (bytesL b))) * 1)) <|
 (gq90 (([(1 : Int)] ++ (bytesL a)) ++ (bytesL b))).bind fun r =>
 kk r
theorem gq174.F_nat {R S : Type} (g : R → Option S) (kk : ByteArray → Option R) (a b) : gq174.F (fun y0 => (kk y0).bind g) a b = (gq174.F kk a b).bind g := by
 simp only [gq174.F, grd_bind, cnd_bind, bnd_bind, non_bind]
def gq174 (a : ByteArray) (b : ByteArray) : Option ByteArray := gq174.F (fun y0 => some y0) a b
def gq174.out : ByteArray → CRes := fun a => ⟨encL SV.enc [.one (.str)] (a, ()), [encL SC.enc [] (), encL SC.enc [] ()]⟩
def gq174.ps : List PS := [.val [none], .val [none]]
def gq174.sA : List SA := [.v (.one (.str)), .v (.one (.str))]
def gq174.fi : FI := FIs gq174.sA (ByteArray) (fun t => gq174 t.1 t.2.1) gq174.out gq174.ps
def gq174.E : Env := ⟨tt, lkF [(90, gq90.fi)], 11, 0, [], [], []⟩
theorem gq174.hok (hE : EOk Tryz.prog (gq174.E)) : HintOk Tryz.prog gq174.E (bodyOf Tryz.f174) (.a) := HintOk.n1 (Q := True) (by kernel_rfl) trivial
theorem gq174.hE : EOk Tryz.prog (gq174.E) := EOk.of ttOk (⟨gq90.fok, trivial⟩)
theorem gq174.fok : FOk Tryz.prog 174 gq174.fi :=
 fokS (E := gq174.E) (wy := ⟨[[none]], [[], []], []⟩) (h := (fun gs => .a)) (G := fun t g => gq174.F (fun y0 => g y0) t.1 t.2.1) (by kernel_rfl) gq174.hE Tryz.func174 (by kernel_rfl) rfl (Nat.le_refl _) (fun t => HintOk.n1 (by kernel_rfl) (gq174.hok gq174.hE)) (fun t g => gq174.F_nat g (fun y0 => some y0) _ _) (fun t => by kernel_rfl)
def gq87.F {R : Type} (rc : List ByteArray → Option ByteArray) (kk : ByteArray → Option R) (list : List ByteArray) : Option R :=
 cond ((List.length list : Int) == (0 : Int)) (
  (gq90 ([] : List Int)).bind fun r =>
  kk r) (
  cond ((List.length list : Int) == (1 : Int)) (
   grd (gIx (0 : Int) (List.length list)) <|
   kk (rdE (.str : Kd) list (Int.toNat (0 : Int)))) (
   (gq173 (List.length list : Int)).bind fun r1 =>
   grd (gSl (0 : Int) r1 (List.length list)) <|
   (rc (sub list (0 : Int) r1)).bind fun r2 =>
   grd (gSl r1 (List.length list : Int) (List.length list)) <|
   (rc (sub list r1 (List.length list : Int))).bind fun r3 =>
   (gq174 r2 r3).bind fun r4 =>
   kk r4))
theorem gq87.F_nat {R S : Type} (g : R → Option S) (rc : List ByteArray → Option ByteArray) (kk : ByteArray → Option R) (list) : gq87.F rc (fun y0 => (kk y0).bind g) list = (gq87.F rc kk list).bind g := by
 simp only [gq87.F, grd_bind, cnd_bind, bnd_bind, non_bind]
def gq87 : Nat → List ByteArray → Option ByteArray
 | 0, _ => none
 | fu + 1, list => gq87.F (gq87 fu) (fun y0 => some y0) list
theorem gq87_nat {S : Type} (fu : Nat) (g : ByteArray → Option S) (list : List ByteArray) : gq87.F (gq87 fu) (fun y0 => g y0) list = (gq87 (fu + 1) list).bind g := gq87.F_nat g (gq87 fu) (fun y0 => some y0) list
def gq87.out : ByteArray → CRes := fun a => ⟨encL SV.enc [.one (.str)] (a, ()), [encL SC.enc [] ()]⟩
def gq87.ps : List PS := [.val [some (.str, false)]]
def gq87.sA : List SA := [.v (.one (.slv [] .str))]
def gq87.fi (fu : Nat) : FI := FIs gq87.sA (ByteArray) (fun t => gq87 fu t.1) gq87.out gq87.ps
def gq87.E (fu : Nat) : Env := ⟨tt, lkF [(87, gq87.fi fu), (90, gq90.fi), (173, gq173.fi), (174, gq174.fi)], 27, 0, [], [], []⟩
theorem gq87.hok (fu : Nat) (hE : EOk Tryz.prog (gq87.E fu)) : HintOk Tryz.prog (gq87.E fu) (bodyOf Tryz.f87) (.a) := HintOk.n1 (Q := True) (by kernel_rfl) trivial
theorem gq87.fok0 : FOk Tryz.prog 87 (gq87.fi 0) := FOk.zero ⟨_, _, Tryz.func87, by kernel_rfl, rfl⟩ (fun _ => rfl)
theorem gq87.fok1 (fu : Nat) (ih : FOk Tryz.prog 87 (gq87.fi fu)) : FOk Tryz.prog 87 (gq87.fi (fu + 1)) := by
 have hE : EOk Tryz.prog (gq87.E fu) := EOk.of ttOk (⟨ih, ⟨gq90.fok, ⟨gq173.fok, ⟨gq174.fok, trivial⟩⟩⟩⟩)
 exact fokS (E := gq87.E fu) (wy := ⟨[[none]], [[]], []⟩) (h := (fun gs => .a)) (G := fun t g => gq87.F (gq87 fu) (fun y0 => g y0) t.1) (by kernel_rfl) hE Tryz.func87 (by kernel_rfl) rfl (Nat.le_refl _) (fun t => HintOk.n1 (by kernel_rfl) (gq87.hok fu hE)) (fun t g => gq87_nat fu g t.1) (fun t => by kernel_rfl)
theorem gq87.fok (fu : Nat) : FOk Tryz.prog 87 (gq87.fi fu) := Nat.rec gq87.fok0 gq87.fok1 fu
def gq148.l1 {R : Type} (kke0 : ByteArray → Option R) : Nat → ByteArray → Int → Int → Int → Option R
 | 0, _, _, _, _ => none
 | n + 1, h, from_, steps, i =>
  cond (decide (i < steps)) (
   grd (gRm (((List.length [(3 : Int), IntKind.wrap .u8 (IntKind.wrap .i64 (from_ + i))]) + (List.length (bytesL h))) * 1)) <|
   (gq90 ([(3 : Int), IntKind.wrap .u8 (IntKind.wrap .i64 (from_ + i))] ++ (bytesL h))).bind fun r =>
   gq148.l1 kke0 n r from_ steps (IntKind.wrap .i64 (i + (1 : Int)))) (kke0 h)
theorem gq148.l1_nat {R S : Type} (g : R → Option S) (kke0 : ByteArray → Option R) : ∀ n h from_ steps i, gq148.l1 (fun y0 => (kke0 y0).bind g) n h from_ steps i = (gq148.l1 kke0 n h from_ steps i).bind g := by
 intro n
 induction n with
 | zero => intros; rfl
 | succ n ih => intros; simp only [gq148.l1, grd_bind, cnd_bind, bnd_bind, non_bind, ih]
def gq148.F {R : Type} (kk : ByteArray → Option R) (h : ByteArray) (from_ : Int) (steps : Int) : Option R :=
 gq148.l1 (fun h1 => kk h1) fuel h from_ steps (0 : Int)
theorem gq148.F_nat {R S : Type} (g : R → Option S) (kk : ByteArray → Option R) (h from_ steps) : gq148.F (fun y0 => (kk y0).bind g) h from_ steps = (gq148.F kk h from_ steps).bind g := by
 simp only [gq148.F, grd_bind, cnd_bind, bnd_bind, non_bind, ← gq148.l1_nat]
def gq148 (h : ByteArray) (from_ : Int) (steps : Int) : Option ByteArray := gq148.F (fun y0 => some y0) h from_ steps
def gq148.out : ByteArray → CRes := fun a => ⟨encL SV.enc [.one (.str)] (a, ()), [encL SC.enc [] (), encL SC.enc [] (), encL SC.enc [] ()]⟩
def gq148.ps : List PS := [.val [none], .val [none], .val [none]]
def gq148.sA : List SA := [.v (.one (.str)), .v (.one (.int .i64)), .v (.one (.int .i64))]
def gq148.fi : FI := FIs gq148.sA (ByteArray) (fun t => gq148 t.1 t.2.1 t.2.2.1) gq148.out gq148.ps
def gq148.E : Env := ⟨tt, lkF [(90, gq90.fi)], 22, 0, [], [], []⟩
def gq148.sh1 : SK := ⟨[.v (.one (.str)), .v (.one (.int .i64)), .v (.one (.int .i64)), .v (.one (.int .i64))], []⟩
def gq148.sh1e0 : SK := ⟨[.v (.one (.str))], []⟩
def gq148.ko1 : Ex → List CastAt × List Nat
 | .nrm => ([], [])
 | .ret => ([], [])
 | .ext i => cond (Nat.beq i 0) ([], [0]) ([], [])
def gq148.G1 (n : Nat) (R : Type) (t : gq148.sh1.T) (K : Ex → Kp → Option R) : Option R := gq148.l1 (fun y0 => K (.ext 0) (SK.enc gq148.sh1e0 ((y0, ()), ()))) n t.1.1 t.1.2.1 t.1.2.2.1 t.1.2.2.2.1
def gq148.S1 : Sum := ⟨([], [0, 1, 2, 7]), sumF gq148.sh1 (gq148.G1 fuel), gq148.ko1⟩
theorem gq148.ok1 (hE : EOk Tryz.prog (gq148.E)) : SumOk Tryz.prog gq148.E (cB (cR (cL (cR (bodyOf Tryz.f148))))) (gq148.S1) := by
 have hh : HintOk Tryz.prog gq148.E (cB (cB (cR (cL (cR (bodyOf Tryz.f148)))))) (.a) := HintOk.n1 (Q := True) (by kernel_rfl) trivial
 have h := loopS (kin := ([], [0, 1, 2, 7])) (kout := gq148.ko1) (sh := gq148.sh1) (F := gq148.G1) (ops_ok (hE.gv _)) (by kernel_rfl) hh (fun _ _ _ => rfl) (fun n R t K => by kernel_rfl) fuel
 exact HintOk.n1 (c := (cB (cR (cL (cR (bodyOf Tryz.f148)))))) (h := .s (gq148.S1)) (P := Tryz.prog) (E := gq148.E) (by kernel_rfl) h
theorem gq148.hok (hE : EOk Tryz.prog (gq148.E)) : HintOk Tryz.prog gq148.E (bodyOf Tryz.f148) (.n (.a) (.n (.n (.a) (.b (.s (gq148.S1)))) (.a))) := HintOk.n1 (Q := (True) ∧ (((True) ∧ (SumOk Tryz.prog gq148.E (cB (cR (cL (cR (bodyOf Tryz.f148))))) (gq148.S1))) ∧ (True))) (by kernel_rfl) ⟨trivial, ⟨⟨trivial, (gq148.ok1 hE)⟩, trivial⟩⟩
theorem gq148.hE : EOk Tryz.prog (gq148.E) := EOk.of ttOk (⟨gq90.fok, trivial⟩)
theorem gq148.fok : FOk Tryz.prog 148 gq148.fi :=
 fokS (E := gq148.E) (wy := ⟨[[none]], [[], [], []], []⟩) (h := (fun gs => .n (.a) (.n (.n (.a) (.b (.s (gq148.S1)))) (.a)))) (G := fun t g => gq148.F (fun y0 => g y0) t.1 t.2.1 t.2.2.1) (by kernel_rfl) gq148.hE Tryz.func148 (by kernel_rfl) rfl (Nat.le_refl _) (fun t => HintOk.n1 (by kernel_rfl) (gq148.hok gq148.hE)) (fun t g => gq148.F_nat g (fun y0 => some y0) _ _ _) (fun t => by kernel_rfl)
def gq149.F {R : Type} (kk : ByteArray → Option R) (seed : ByteArray) (index : Int) (chain : Int) : Option R :=
 grd (gRm (((List.length [(4 : Int), IntKind.wrap .u8 index, IntKind.wrap .u8 chain]) + (List.length (bytesL seed))) * 1)) <|
 (gq90 ([(4 : Int), IntKind.wrap .u8 index, IntKind.wrap .u8 chain] ++ (bytesL seed))).bind fun r =>
 kk r
theorem gq149.F_nat {R S : Type} (g : R → Option S) (kk : ByteArray → Option R) (seed index chain) : gq149.F (fun y0 => (kk y0).bind g) seed index chain = (gq149.F kk seed index chain).bind g := by
 simp only [gq149.F, grd_bind, cnd_bind, bnd_bind, non_bind]
def gq149 (seed : ByteArray) (index : Int) (chain : Int) : Option ByteArray := gq149.F (fun y0 => some y0) seed index chain
def gq149.out : ByteArray → CRes := fun a => ⟨encL SV.enc [.one (.str)] (a, ()), [encL SC.enc [] (), encL SC.enc [] (), encL SC.enc [] ()]⟩
def gq149.ps : List PS := [.val [none], .val [none], .val [none]]
def gq149.sA : List SA := [.v (.one (.str)), .v (.one (.int .i64)), .v (.one (.int .i64))]
def gq149.fi : FI := FIs gq149.sA (ByteArray) (fun t => gq149 t.1 t.2.1 t.2.2.1) gq149.out gq149.ps
def gq149.E : Env := ⟨tt, lkF [(90, gq90.fi)], 15, 0, [], [], []⟩
theorem gq149.hok (hE : EOk Tryz.prog (gq149.E)) : HintOk Tryz.prog gq149.E (bodyOf Tryz.f149) (.a) := HintOk.n1 (Q := True) (by kernel_rfl) trivial
theorem gq149.hE : EOk Tryz.prog (gq149.E) := EOk.of ttOk (⟨gq90.fok, trivial⟩)
theorem gq149.fok : FOk Tryz.prog 149 gq149.fi :=
 fokS (E := gq149.E) (wy := ⟨[[none]], [[], [], []], []⟩) (h := (fun gs => .a)) (G := fun t g => gq149.F (fun y0 => g y0) t.1 t.2.1 t.2.2.1) (by kernel_rfl) gq149.hE Tryz.func149 (by kernel_rfl) rfl (Nat.le_refl _) (fun t => HintOk.n1 (by kernel_rfl) (gq149.hok gq149.hE)) (fun t g => gq149.F_nat g (fun y0 => some y0) _ _ _) (fun t => by kernel_rfl)
def gq241.l1 {R : Type} (kke0 : List Int → Option R) : Nat → List ByteArray → Int → List Int → Option R
 | 0, _, _, _ => none
 | n + 1, ends, i, b =>
  cond (decide (i < (List.length ends : Int))) (
   grd (gIx i (List.length ends)) <|
   grd (gRm (((List.length b) + (List.length (bytesL (rdE (.str : Kd) ends (Int.toNat i))))) * 1)) <|
   gq241.l1 kke0 n ends (IntKind.wrap .i64 (i + (1 : Int))) (b ++ (bytesL (rdE (.str : Kd) ends (Int.toNat i))))) (kke0 b)
theorem gq241.l1_nat {R S : Type} (g : R → Option S) (kke0 : List Int → Option R) : ∀ n ends i b, gq241.l1 (fun y0 => (kke0 y0).bind g) n ends i b = (gq241.l1 kke0 n ends i b).bind g := by
 intro n
 induction n with
 | zero => intros; rfl
 | succ n ih => intros; simp only [gq241.l1, grd_bind, cnd_bind, bnd_bind, non_bind, ih]
def gq241.F {R : Type} (kk : ByteArray → Option R) (ends : List ByteArray) : Option R :=
 gq241.l1 (fun b =>
  (gq90 b).bind fun r =>
  kk r) fuel ends (0 : Int) [(5 : Int)]
theorem gq241.F_nat {R S : Type} (g : R → Option S) (kk : ByteArray → Option R) (ends) : gq241.F (fun y0 => (kk y0).bind g) ends = (gq241.F kk ends).bind g := by
 simp only [gq241.F, grd_bind, cnd_bind, bnd_bind, non_bind, ← gq241.l1_nat]
def gq241 (ends : List ByteArray) : Option ByteArray := gq241.F (fun y0 => some y0) ends
def gq241.out : ByteArray → CRes := fun a => ⟨encL SV.enc [.one (.str)] (a, ()), [encL SC.enc [] ()]⟩
def gq241.ps : List PS := [.val [some (.str, false)]]
def gq241.sA : List SA := [.v (.one (.slv [] .str))]
def gq241.fi : FI := FIs gq241.sA (ByteArray) (fun t => gq241 t.1) gq241.out gq241.ps
def gq241.E : Env := ⟨tt, lkF [(90, gq90.fi)], 20, 0, [], [], []⟩
def gq241.sh1 : SK := ⟨[.v (.one (.slv [1] .str)), .v (.one (.slo 0)), .v (.one (.int .i64))], [.arr (.int .u8) [] true]⟩
def gq241.sh1e0 : SK := ⟨[.v (.one (.slo 0))], [.arr (.int .u8) [] true]⟩
def gq241.ko1 : Ex → List CastAt × List Nat
 | .nrm => ([], [])
 | .ret => ([], [])
 | .ext i => cond (Nat.beq i 0) ([], [3]) ([], [])
def gq241.G1 (n : Nat) (R : Type) (t : gq241.sh1.T) (K : Ex → Kp → Option R) : Option R := gq241.l1 (fun y0 => K (.ext 0) (SK.enc gq241.sh1e0 (((), ()), (y0, ())))) n t.1.1 t.1.2.2.1 t.2.1
def gq241.S1 : Sum := ⟨([], [0, 3, 4]), sumF gq241.sh1 (gq241.G1 fuel), gq241.ko1⟩
theorem gq241.ok1 (hE : EOk Tryz.prog (gq241.E)) : SumOk Tryz.prog gq241.E (cB (cR (cL (cR (cR (bodyOf Tryz.f241)))))) (gq241.S1) := by
 have hh : HintOk Tryz.prog gq241.E (cB (cB (cR (cL (cR (cR (bodyOf Tryz.f241))))))) (.a) := HintOk.n1 (Q := True) (by kernel_rfl) trivial
 have h := loopS (kin := ([], [0, 3, 4])) (kout := gq241.ko1) (sh := gq241.sh1) (F := gq241.G1) (ops_ok (hE.gv _)) (by kernel_rfl) hh (fun _ _ _ => rfl) (fun n R t K => by kernel_rfl) fuel
 exact HintOk.n1 (c := (cB (cR (cL (cR (cR (bodyOf Tryz.f241))))))) (h := .s (gq241.S1)) (P := Tryz.prog) (E := gq241.E) (by kernel_rfl) h
theorem gq241.hok (hE : EOk Tryz.prog (gq241.E)) : HintOk Tryz.prog gq241.E (bodyOf Tryz.f241) (.n (.a) (.n (.a) (.n (.n (.a) (.b (.s (gq241.S1)))) (.a)))) := HintOk.n1 (Q := (True) ∧ ((True) ∧ (((True) ∧ (SumOk Tryz.prog gq241.E (cB (cR (cL (cR (cR (bodyOf Tryz.f241)))))) (gq241.S1))) ∧ (True)))) (by kernel_rfl) ⟨trivial, ⟨trivial, ⟨⟨trivial, (gq241.ok1 hE)⟩, trivial⟩⟩⟩
theorem gq241.hE : EOk Tryz.prog (gq241.E) := EOk.of ttOk (⟨gq90.fok, trivial⟩)
theorem gq241.fok : FOk Tryz.prog 241 gq241.fi :=
 fokS (E := gq241.E) (wy := ⟨[[none]], [[]], []⟩) (h := (fun gs => .n (.a) (.n (.a) (.n (.n (.a) (.b (.s (gq241.S1)))) (.a))))) (G := fun t g => gq241.F (fun y0 => g y0) t.1) (by kernel_rfl) gq241.hE Tryz.func241 (by kernel_rfl) rfl (Nat.le_refl _) (fun t => HintOk.n1 (by kernel_rfl) (gq241.hok gq241.hE)) (fun t g => gq241.F_nat g (fun y0 => some y0) _) (fun t => by kernel_rfl)
def gq175.l1 {R : Type} (kke0 : List ByteArray → Option R) : Nat → ByteArray → Int → Int → List ByteArray → Option R
 | 0, _, _, _, _ => none
 | n + 1, seed, index, c, ends =>
  cond (decide (c < (18 : Int))) (
   (gq149 seed index c).bind fun r =>
   (gq148 r (0 : Int) (15 : Int)).bind fun r1 =>
   grd (gRm (((List.length ends) + (List.length [r1])) * 16)) <|
   gq175.l1 kke0 n seed index (IntKind.wrap .i64 (c + (1 : Int))) (ends ++ [r1])) (kke0 ends)
theorem gq175.l1_nat {R S : Type} (g : R → Option S) (kke0 : List ByteArray → Option R) : ∀ n seed index c ends, gq175.l1 (fun y0 => (kke0 y0).bind g) n seed index c ends = (gq175.l1 kke0 n seed index c ends).bind g := by
 intro n
 induction n with
 | zero => intros; rfl
 | succ n ih => intros; simp only [gq175.l1, grd_bind, cnd_bind, bnd_bind, non_bind, ih]
def gq175.F {R : Type} (kk : ByteArray → Option R) (seed : ByteArray) (index : Int) : Option R :=
 gq175.l1 (fun ends =>
  (gq241 ends).bind fun r =>
  kk r) fuel seed index (0 : Int) ([] : List ByteArray)
theorem gq175.F_nat {R S : Type} (g : R → Option S) (kk : ByteArray → Option R) (seed index) : gq175.F (fun y0 => (kk y0).bind g) seed index = (gq175.F kk seed index).bind g := by
 simp only [gq175.F, grd_bind, cnd_bind, bnd_bind, non_bind, ← gq175.l1_nat]
def gq175 (seed : ByteArray) (index : Int) : Option ByteArray := gq175.F (fun y0 => some y0) seed index
def gq175.out : ByteArray → CRes := fun a => ⟨encL SV.enc [.one (.str)] (a, ()), [encL SC.enc [] (), encL SC.enc [] ()]⟩
def gq175.ps : List PS := [.val [none], .val [none]]
def gq175.sA : List SA := [.v (.one (.str)), .v (.one (.int .i64))]
def gq175.fi : FI := FIs gq175.sA (ByteArray) (fun t => gq175 t.1 t.2.1) gq175.out gq175.ps
def gq175.E : Env := ⟨tt, lkF [(148, gq148.fi), (149, gq149.fi), (241, gq241.fi)], 22, 0, [], [], []⟩
def gq175.sh1 : SK := ⟨[.v (.one (.str)), .v (.one (.int .i64)), .v (.one (.slo 0)), .v (.one (.int .i64))], [.arr .str [] true]⟩
def gq175.sh1e0 : SK := ⟨[.v (.one (.slo 0))], [.arr .str [] true]⟩
def gq175.ko1 : Ex → List CastAt × List Nat
 | .nrm => ([], [])
 | .ret => ([], [])
 | .ext i => cond (Nat.beq i 0) ([], [5]) ([], [])
def gq175.G1 (n : Nat) (R : Type) (t : gq175.sh1.T) (K : Ex → Kp → Option R) : Option R := gq175.l1 (fun y0 => K (.ext 0) (SK.enc gq175.sh1e0 (((), ()), (y0, ())))) n t.1.1 t.1.2.1 t.1.2.2.2.1 t.2.1
def gq175.S1 : Sum := ⟨([], [0, 1, 5, 6]), sumF gq175.sh1 (gq175.G1 fuel), gq175.ko1⟩
theorem gq175.ok1 (hE : EOk Tryz.prog (gq175.E)) : SumOk Tryz.prog gq175.E (cB (cR (cL (cR (cR (bodyOf Tryz.f175)))))) (gq175.S1) := by
 have hh : HintOk Tryz.prog gq175.E (cB (cB (cR (cL (cR (cR (bodyOf Tryz.f175))))))) (.a) := HintOk.n1 (Q := True) (by kernel_rfl) trivial
 have h := loopS (kin := ([], [0, 1, 5, 6])) (kout := gq175.ko1) (sh := gq175.sh1) (F := gq175.G1) (ops_ok (hE.gv _)) (by kernel_rfl) hh (fun _ _ _ => rfl) (fun n R t K => by kernel_rfl) fuel
 exact HintOk.n1 (c := (cB (cR (cL (cR (cR (bodyOf Tryz.f175))))))) (h := .s (gq175.S1)) (P := Tryz.prog) (E := gq175.E) (by kernel_rfl) h
theorem gq175.hok (hE : EOk Tryz.prog (gq175.E)) : HintOk Tryz.prog gq175.E (bodyOf Tryz.f175) (.n (.a) (.n (.a) (.n (.n (.a) (.b (.s (gq175.S1)))) (.a)))) := HintOk.n1 (Q := (True) ∧ ((True) ∧ (((True) ∧ (SumOk Tryz.prog gq175.E (cB (cR (cL (cR (cR (bodyOf Tryz.f175)))))) (gq175.S1))) ∧ (True)))) (by kernel_rfl) ⟨trivial, ⟨trivial, ⟨⟨trivial, (gq175.ok1 hE)⟩, trivial⟩⟩⟩
theorem gq175.hE : EOk Tryz.prog (gq175.E) := EOk.of ttOk (⟨gq148.fok, ⟨gq149.fok, ⟨gq241.fok, trivial⟩⟩⟩)
theorem gq175.fok : FOk Tryz.prog 175 gq175.fi :=
 fokS (E := gq175.E) (wy := ⟨[[none]], [[], []], []⟩) (h := (fun gs => .n (.a) (.n (.a) (.n (.n (.a) (.b (.s (gq175.S1)))) (.a))))) (G := fun t g => gq175.F (fun y0 => g y0) t.1 t.2.1) (by kernel_rfl) gq175.hE Tryz.func175 (by kernel_rfl) rfl (Nat.le_refl _) (fun t => HintOk.n1 (by kernel_rfl) (gq175.hok gq175.hE)) (fun t g => gq175.F_nat g (fun y0 => some y0) _ _) (fun t => by kernel_rfl)
def gq88.l1 {R : Type} (kke0 : List ByteArray → Option R) : Nat → ByteArray → Int → List ByteArray → Option R
 | 0, _, _, _ => none
 | n + 1, seed, i, out =>
  cond (decide (i < (4 : Int))) (
   (gq175 seed i).bind fun r =>
   grd (gRm (((List.length out) + (List.length [r])) * 16)) <|
   gq88.l1 kke0 n seed (IntKind.wrap .i64 (i + (1 : Int))) (out ++ [r])) (kke0 out)
theorem gq88.l1_nat {R S : Type} (g : R → Option S) (kke0 : List ByteArray → Option R) : ∀ n seed i out, gq88.l1 (fun y0 => (kke0 y0).bind g) n seed i out = (gq88.l1 kke0 n seed i out).bind g := by
 intro n
 induction n with
 | zero => intros; rfl
 | succ n ih => intros; simp only [gq88.l1, grd_bind, cnd_bind, bnd_bind, non_bind, ih]
def gq88.F {R : Type} (kk : List ByteArray → Option R) (seed : ByteArray) : Option R :=
 gq88.l1 (fun out => kk out) fuel seed (0 : Int) ([] : List ByteArray)
theorem gq88.F_nat {R S : Type} (g : R → Option S) (kk : List ByteArray → Option R) (seed) : gq88.F (fun y0 => (kk y0).bind g) seed = (gq88.F kk seed).bind g := by
 simp only [gq88.F, grd_bind, cnd_bind, bnd_bind, non_bind, ← gq88.l1_nat]
def gq88 (seed : ByteArray) : Option (List ByteArray) := gq88.F (fun y0 => some y0) seed
def gq88.out : (List ByteArray) → CRes := fun a => ⟨encL SV.enc [.one (.own [] .str true)] (a, ()), [encL SC.enc [] ()]⟩
def gq88.ps : List PS := [.val [none]]
def gq88.sA : List SA := [.v (.one (.str))]
def gq88.fi : FI := FIs gq88.sA (List ByteArray) (fun t => gq88 t.1) gq88.out gq88.ps
def gq88.E : Env := ⟨tt, lkF [(175, gq175.fi)], 17, 0, [], [], []⟩
def gq88.sh1 : SK := ⟨[.v (.one (.str)), .v (.one (.slo 0)), .v (.one (.int .i64))], [.arr .str [] true]⟩
def gq88.sh1e0 : SK := ⟨[.v (.one (.slo 0))], [.arr .str [] true]⟩
def gq88.ko1 : Ex → List CastAt × List Nat
 | .nrm => ([], [])
 | .ret => ([], [])
 | .ext i => cond (Nat.beq i 0) ([], [3]) ([], [])
def gq88.G1 (n : Nat) (R : Type) (t : gq88.sh1.T) (K : Ex → Kp → Option R) : Option R := gq88.l1 (fun y0 => K (.ext 0) (SK.enc gq88.sh1e0 (((), ()), (y0, ())))) n t.1.1 t.1.2.2.1 t.2.1
def gq88.S1 : Sum := ⟨([], [0, 3, 4]), sumF gq88.sh1 (gq88.G1 fuel), gq88.ko1⟩
theorem gq88.ok1 (hE : EOk Tryz.prog (gq88.E)) : SumOk Tryz.prog gq88.E (cB (cR (cL (cR (cR (bodyOf Tryz.f88)))))) (gq88.S1) := by
 have hh : HintOk Tryz.prog gq88.E (cB (cB (cR (cL (cR (cR (bodyOf Tryz.f88))))))) (.a) := HintOk.n1 (Q := True) (by kernel_rfl) trivial
 have h := loopS (kin := ([], [0, 3, 4])) (kout := gq88.ko1) (sh := gq88.sh1) (F := gq88.G1) (ops_ok (hE.gv _)) (by kernel_rfl) hh (fun _ _ _ => rfl) (fun n R t K => by kernel_rfl) fuel
 exact HintOk.n1 (c := (cB (cR (cL (cR (cR (bodyOf Tryz.f88))))))) (h := .s (gq88.S1)) (P := Tryz.prog) (E := gq88.E) (by kernel_rfl) h
theorem gq88.hok (hE : EOk Tryz.prog (gq88.E)) : HintOk Tryz.prog gq88.E (bodyOf Tryz.f88) (.n (.a) (.n (.a) (.n (.n (.a) (.b (.s (gq88.S1)))) (.a)))) := HintOk.n1 (Q := (True) ∧ ((True) ∧ (((True) ∧ (SumOk Tryz.prog gq88.E (cB (cR (cL (cR (cR (bodyOf Tryz.f88)))))) (gq88.S1))) ∧ (True)))) (by kernel_rfl) ⟨trivial, ⟨trivial, ⟨⟨trivial, (gq88.ok1 hE)⟩, trivial⟩⟩⟩
theorem gq88.hE : EOk Tryz.prog (gq88.E) := EOk.of ttOk (⟨gq175.fok, trivial⟩)
theorem gq88.fok : FOk Tryz.prog 88 gq88.fi :=
 fokS (E := gq88.E) (wy := ⟨[[some (.str, true)]], [[]], []⟩) (h := (fun gs => .n (.a) (.n (.a) (.n (.n (.a) (.b (.s (gq88.S1)))) (.a))))) (G := fun t g => gq88.F (fun y0 => g y0) t.1) (by kernel_rfl) gq88.hE Tryz.func88 (by kernel_rfl) rfl (Nat.le_refl _) (fun t => HintOk.n1 (by kernel_rfl) (gq88.hok gq88.hE)) (fun t g => gq88.F_nat g (fun y0 => some y0) _) (fun t => by kernel_rfl)
def gq24.F {R : Type} (kk : ByteArray → Int → Option R) (seed : ByteArray) : Option R :=
 cond (decide ((ByteArray.size seed : Int) > (65536 : Int))) (kk ByteArray.empty (2 : Int)) (
  cond ((ByteArray.size seed : Int) != (32 : Int)) (kk ByteArray.empty (1 : Int)) (
   (gq88 seed).bind fun r =>
   (gq87 fuel r).bind fun r1 =>
   kk r1 (0 : Int)))
theorem gq24.F_nat {R S : Type} (g : R → Option S) (kk : ByteArray → Int → Option R) (seed) : gq24.F (fun y0 y1 => (kk y0 y1).bind g) seed = (gq24.F kk seed).bind g := by
 simp only [gq24.F, grd_bind, cnd_bind, bnd_bind, non_bind]
def gq24 (seed : ByteArray) : Option (ByteArray × Int) := gq24.F (fun y0 y1 => some (y0, y1)) seed
def gq24.out : (ByteArray × Int) → CRes := fun a => ⟨encL SV.enc [.one (.str), .one (.int .i64)] (a.1, a.2, ()), [encL SC.enc [] ()]⟩
def gq24.ps : List PS := [.val [none]]
def gq24.sA : List SA := [.v (.one (.str))]
def gq24.fi : FI := FIs gq24.sA (ByteArray × Int) (fun t => gq24 t.1) gq24.out gq24.ps
def gq24.E : Env := ⟨tt, lkF [(87, gq87.fi fuel), (88, gq88.fi)], 13, 0, [], [], []⟩
theorem gq24.hok (hE : EOk Tryz.prog (gq24.E)) : HintOk Tryz.prog gq24.E (bodyOf Tryz.f24) (.a) := HintOk.n1 (Q := True) (by kernel_rfl) trivial
theorem gq24.hE : EOk Tryz.prog (gq24.E) := EOk.of ttOk (⟨gq87.fok fuel, ⟨gq88.fok, trivial⟩⟩)
theorem gq24.fok : FOk Tryz.prog 24 gq24.fi :=
 fokS (E := gq24.E) (wy := ⟨[[none], [none]], [[]], []⟩) (h := (fun gs => .a)) (G := fun t g => gq24.F (fun y0 y1 => g (y0, y1)) t.1) (by kernel_rfl) gq24.hE Tryz.func24 (by kernel_rfl) rfl (Nat.le_refl _) (fun t => HintOk.n1 (by kernel_rfl) (gq24.hok gq24.hE)) (fun t g => gq24.F_nat g (fun y0 y1 => some (y0, y1)) _) (fun t => by kernel_rfl)
def l_at.F {R : Type} (kk : Int → Option R) (more : List Int) (i : Int) (n_ : Int) : Option R :=
 cond (decide (n_ ≤ (1 : Int))) (kk (0 : Int)) (
  cond ((List.length more : Int) == (0 : Int)) (
   grd (gNz n_) <|
   kk (Int.tmod (IntKind.wrap .i64 (i * (7 : Int))) n_)) (
   grd (gNz (List.length more : Int)) <|
   grd (gIx (Int.tmod i (List.length more : Int)) (List.length more)) <|
   grd (gNz (List.length more : Int)) <|
   grd (gIx (Int.tmod (IntKind.wrap .i64 (i + (1 : Int))) (List.length more : Int)) (List.length more)) <|
   grd (gNz (List.length more : Int)) <|
   grd (gNz n_) <|
   kk (Int.tmod (IntKind.wrap .i64 ((IntKind.wrap .i64 ((IntKind.wrap .i64 ((IntKind.wrap .i64 (rdE (.int .u8 : Kd) more (Int.toNat (Int.tmod i (List.length more : Int))))) * (31 : Int))) + (IntKind.wrap .i64 (rdE (.int .u8 : Kd) more (Int.toNat (Int.tmod (IntKind.wrap .i64 (i + (1 : Int))) (List.length more : Int))))))) + (IntKind.wrap .i64 (Int.tdiv i (List.length more : Int))))) n_)))
theorem l_at.F_nat {R S : Type} (g : R → Option S) (kk : Int → Option R) (more i n_) : l_at.F (fun y0 => (kk y0).bind g) more i n_ = (l_at.F kk more i n_).bind g := by
 simp only [l_at.F, grd_bind, cnd_bind, bnd_bind, non_bind]
def l_at (more : List Int) (i : Int) (n_ : Int) : Option Int := l_at.F (fun y0 => some y0) more i n_
def l_at.out : Int → CRes := fun a => ⟨encL SV.enc [.one (.int .i64)] (a, ()), [encL SC.enc [] (), encL SC.enc [] (), encL SC.enc [] ()]⟩
def l_at.ps : List PS := [.val [some ((.int .u8), false)], .val [none], .val [none]]
def l_at.sA : List SA := [.v (.one (.slv [] (.int .u8))), .v (.one (.int .i64)), .v (.one (.int .i64))]
def l_at.fi : FI := FIs l_at.sA (Int) (fun t => l_at t.1 t.2.1 t.2.2.1) l_at.out l_at.ps
def l_at.E : Env := ⟨tt, lkF [], 42, 0, [], [], []⟩
theorem l_at.hok (hE : EOk Tryz.prog (l_at.E)) : HintOk Tryz.prog l_at.E (bodyOf Tryz.f25) (.a) := HintOk.n1 (Q := True) (by kernel_rfl) trivial
theorem l_at.hE : EOk Tryz.prog (l_at.E) := EOk.of ttOk (trivial)
theorem l_at.fok : FOk Tryz.prog 25 l_at.fi :=
 fokS (E := l_at.E) (wy := ⟨[[none]], [[], [], []], []⟩) (h := (fun gs => .a)) (G := fun t g => l_at.F (fun y0 => g y0) t.1 t.2.1 t.2.2.1) (by kernel_rfl) l_at.hE Tryz.func25 (by kernel_rfl) rfl (Nat.le_refl _) (fun t => HintOk.n1 (by kernel_rfl) (l_at.hok l_at.hE)) (fun t g => l_at.F_nat g (fun y0 => some y0) _ _ _) (fun t => by kernel_rfl)
def gq103.l1 {R : Type} (kke0 : Option R) (kkr : Bool → Option R) : Nat → List ByteArray → Int → Option R
 | 0, _, _ => none
 | n + 1, list, i =>
  cond (decide (i < (List.length list : Int))) (
   grd (gIx i (List.length list)) <|
   cond ((ByteArray.size (rdE (.str : Kd) list (Int.toNat i)) : Int) != (32 : Int)) (kkr false) (gq103.l1 kke0 kkr n list (IntKind.wrap .i64 (i + (1 : Int))))) (kke0)
theorem gq103.l1_nat {R S : Type} (g : R → Option S) (kke0 : Option R) (kkr : Bool → Option R) : ∀ n list i, gq103.l1 (kke0.bind g) (fun y0 => (kkr y0).bind g) n list i = (gq103.l1 kke0 kkr n list i).bind g := by
 intro n
 induction n with
 | zero => intros; rfl
 | succ n ih => intros; simp only [gq103.l1, grd_bind, cnd_bind, bnd_bind, non_bind, ih]
def gq103.F {R : Type} (kk : Bool → Option R) (list : List ByteArray) : Option R :=
 cond (decide ((List.length list : Int) > (64 : Int))) (kk false) (gq103.l1 (kk true) (fun b => kk b) fuel list (0 : Int))
theorem gq103.F_nat {R S : Type} (g : R → Option S) (kk : Bool → Option R) (list) : gq103.F (fun y0 => (kk y0).bind g) list = (gq103.F kk list).bind g := by
 simp only [gq103.F, grd_bind, cnd_bind, bnd_bind, non_bind, ← gq103.l1_nat]
def gq103 (list : List ByteArray) : Option Bool := gq103.F (fun y0 => some y0) list
def gq103.out : Bool → CRes := fun a => ⟨encL SV.enc [.one (.bool)] (a, ()), [encL SC.enc [] ()]⟩
def gq103.ps : List PS := [.val [some (.str, false)]]
def gq103.sA : List SA := [.v (.one (.slv [] .str))]
def gq103.fi : FI := FIs gq103.sA (Bool) (fun t => gq103 t.1) gq103.out gq103.ps
def gq103.E : Env := ⟨tt, lkF [], 19, 0, [], [], []⟩
def gq103.sh1 : SK := ⟨[.v (.one (.slv [1] .str)), .v (.one (.int .i64))], []⟩
def gq103.sh1e0 : SK := ⟨[], []⟩
def gq103.sh1r : SK := ⟨[.v (.one (.bool))], []⟩
def gq103.ko1 : Ex → List CastAt × List Nat
 | .nrm => ([], [])
 | .ret => ([], [2])
 | .ext i => cond (Nat.beq i 0) ([], []) ([], [])
def gq103.G1 (n : Nat) (R : Type) (t : gq103.sh1.T) (K : Ex → Kp → Option R) : Option R := gq103.l1 (K (.ext 0) (SK.enc gq103.sh1e0 ((), ()))) (fun y0 => K .ret (SK.enc gq103.sh1r ((y0, ()), ()))) n t.1.1 t.1.2.1
def gq103.S1 : Sum := ⟨([], [0, 3]), sumF gq103.sh1 (gq103.G1 fuel), gq103.ko1⟩
theorem gq103.ok1 (hE : EOk Tryz.prog (gq103.E)) : SumOk Tryz.prog gq103.E (cB (cR (cL (cR (cR (bodyOf Tryz.f103)))))) (gq103.S1) := by
 have hh : HintOk Tryz.prog gq103.E (cB (cB (cR (cL (cR (cR (bodyOf Tryz.f103))))))) (.a) := HintOk.n1 (Q := True) (by kernel_rfl) trivial
 have h := loopS (kin := ([], [0, 3])) (kout := gq103.ko1) (sh := gq103.sh1) (F := gq103.G1) (ops_ok (hE.gv _)) (by kernel_rfl) hh (fun _ _ _ => rfl) (fun n R t K => by kernel_rfl) fuel
 exact HintOk.n1 (c := (cB (cR (cL (cR (cR (bodyOf Tryz.f103))))))) (h := .s (gq103.S1)) (P := Tryz.prog) (E := gq103.E) (by kernel_rfl) h
theorem gq103.hok (hE : EOk Tryz.prog (gq103.E)) : HintOk Tryz.prog gq103.E (bodyOf Tryz.f103) (.n (.a) (.n (.a) (.n (.n (.a) (.b (.s (gq103.S1)))) (.a)))) := HintOk.n1 (Q := (True) ∧ ((True) ∧ (((True) ∧ (SumOk Tryz.prog gq103.E (cB (cR (cL (cR (cR (bodyOf Tryz.f103)))))) (gq103.S1))) ∧ (True)))) (by kernel_rfl) ⟨trivial, ⟨trivial, ⟨⟨trivial, (gq103.ok1 hE)⟩, trivial⟩⟩⟩
theorem gq103.hE : EOk Tryz.prog (gq103.E) := EOk.of ttOk (trivial)
theorem gq103.fok : FOk Tryz.prog 103 gq103.fi :=
 fokS (E := gq103.E) (wy := ⟨[[none]], [[]], []⟩) (h := (fun gs => .n (.a) (.n (.a) (.n (.n (.a) (.b (.s (gq103.S1)))) (.a))))) (G := fun t g => gq103.F (fun y0 => g y0) t.1) (by kernel_rfl) gq103.hE Tryz.func103 (by kernel_rfl) rfl (Nat.le_refl _) (fun t => HintOk.n1 (by kernel_rfl) (gq103.hok gq103.hE)) (fun t g => gq103.F_nat g (fun y0 => some y0) _) (fun t => by kernel_rfl)
def gq89.F {R : Type} (kk : Int → Option R) (list : List ByteArray) : Option R :=
 cond (decide ((List.length list : Int) > (4096 : Int))) (kk (2 : Int)) (
  (gq103 list).bind fun r =>
  cond (!r) (kk (1 : Int)) (kk (0 : Int)))
theorem gq89.F_nat {R S : Type} (g : R → Option S) (kk : Int → Option R) (list) : gq89.F (fun y0 => (kk y0).bind g) list = (gq89.F kk list).bind g := by
 simp only [gq89.F, grd_bind, cnd_bind, bnd_bind, non_bind]
def gq89 (list : List ByteArray) : Option Int := gq89.F (fun y0 => some y0) list
def gq89.out : Int → CRes := fun a => ⟨encL SV.enc [.one (.int .i64)] (a, ()), [encL SC.enc [] ()]⟩
def gq89.ps : List PS := [.val [some (.str, false)]]
def gq89.sA : List SA := [.v (.one (.slv [] .str))]
def gq89.fi : FI := FIs gq89.sA (Int) (fun t => gq89 t.1) gq89.out gq89.ps
def gq89.E : Env := ⟨tt, lkF [(103, gq103.fi)], 9, 0, [], [], []⟩
theorem gq89.hok (hE : EOk Tryz.prog (gq89.E)) : HintOk Tryz.prog gq89.E (bodyOf Tryz.f89) (.a) := HintOk.n1 (Q := True) (by kernel_rfl) trivial
theorem gq89.hE : EOk Tryz.prog (gq89.E) := EOk.of ttOk (⟨gq103.fok, trivial⟩)
theorem gq89.fok : FOk Tryz.prog 89 gq89.fi :=
 fokS (E := gq89.E) (wy := ⟨[[none]], [[]], []⟩) (h := (fun gs => .a)) (G := fun t g => gq89.F (fun y0 => g y0) t.1) (by kernel_rfl) gq89.hE Tryz.func89 (by kernel_rfl) rfl (Nat.le_refl _) (fun t => HintOk.n1 (by kernel_rfl) (gq89.hok gq89.hE)) (fun t g => gq89.F_nat g (fun y0 => some y0) _) (fun t => by kernel_rfl)
def gq26.F {R : Type} (kk : ByteArray → Int → Option R) (leaves : List ByteArray) : Option R :=
 cond (decide ((List.length leaves : Int) > (4096 : Int))) (kk ByteArray.empty (2 : Int)) (
  (gq89 leaves).bind fun r =>
  cond (r != (0 : Int)) (kk ByteArray.empty r) (
   (gq87 fuel leaves).bind fun r1 =>
   kk r1 (0 : Int)))
theorem gq26.F_nat {R S : Type} (g : R → Option S) (kk : ByteArray → Int → Option R) (leaves) : gq26.F (fun y0 y1 => (kk y0 y1).bind g) leaves = (gq26.F kk leaves).bind g := by
 simp only [gq26.F, grd_bind, cnd_bind, bnd_bind, non_bind]
def gq26 (leaves : List ByteArray) : Option (ByteArray × Int) := gq26.F (fun y0 y1 => some (y0, y1)) leaves
def gq26.out : (ByteArray × Int) → CRes := fun a => ⟨encL SV.enc [.one (.str), .one (.int .i64)] (a.1, a.2, ()), [encL SC.enc [] ()]⟩
def gq26.ps : List PS := [.val [some (.str, false)]]
def gq26.sA : List SA := [.v (.one (.slv [] .str))]
def gq26.fi : FI := FIs gq26.sA (ByteArray × Int) (fun t => gq26 t.1) gq26.out gq26.ps
def gq26.E : Env := ⟨tt, lkF [(87, gq87.fi fuel), (89, gq89.fi)], 15, 0, [], [], []⟩
theorem gq26.hok (hE : EOk Tryz.prog (gq26.E)) : HintOk Tryz.prog gq26.E (bodyOf Tryz.f26) (.a) := HintOk.n1 (Q := True) (by kernel_rfl) trivial
theorem gq26.hE : EOk Tryz.prog (gq26.E) := EOk.of ttOk (⟨gq87.fok fuel, ⟨gq89.fok, trivial⟩⟩)
theorem gq26.fok : FOk Tryz.prog 26 gq26.fi :=
 fokS (E := gq26.E) (wy := ⟨[[none], [none]], [[]], []⟩) (h := (fun gs => .a)) (G := fun t g => gq26.F (fun y0 y1 => g (y0, y1)) t.1) (by kernel_rfl) gq26.hE Tryz.func26 (by kernel_rfl) rfl (Nat.le_refl _) (fun t => HintOk.n1 (by kernel_rfl) (gq26.hok gq26.hE)) (fun t g => gq26.F_nat g (fun y0 y1 => some (y0, y1)) _) (fun t => by kernel_rfl)
def s_Hash.F {R : Type} (kk : ByteArray → Option R) (b : List Int) : Option R :=
 cond (decide ((List.length b : Int) > (65536 : Int))) (kk ByteArray.empty) (
  (gq90 b).bind fun r =>
  kk r)
theorem s_Hash.F_nat {R S : Type} (g : R → Option S) (kk : ByteArray → Option R) (b) : s_Hash.F (fun y0 => (kk y0).bind g) b = (s_Hash.F kk b).bind g := by
 simp only [s_Hash.F, grd_bind, cnd_bind, bnd_bind, non_bind]
def s_Hash (b : List Int) : Option ByteArray := s_Hash.F (fun y0 => some y0) b
def s_Hash.out : ByteArray → CRes := fun a => ⟨encL SV.enc [.one (.str)] (a, ()), [encL SC.enc [] ()]⟩
def s_Hash.ps : List PS := [.val [some ((.int .u8), false)]]
def s_Hash.sA : List SA := [.v (.one (.slv [] (.int .u8)))]
def s_Hash.fi : FI := FIs s_Hash.sA (ByteArray) (fun t => s_Hash t.1) s_Hash.out s_Hash.ps
def s_Hash.E : Env := ⟨tt, lkF [(90, gq90.fi)], 8, 0, [], [], []⟩
theorem s_Hash.hok (hE : EOk Tryz.prog (s_Hash.E)) : HintOk Tryz.prog s_Hash.E (bodyOf Tryz.f27) (.a) := HintOk.n1 (Q := True) (by kernel_rfl) trivial
theorem s_Hash.hE : EOk Tryz.prog (s_Hash.E) := EOk.of ttOk (⟨gq90.fok, trivial⟩)
theorem s_Hash.fok : FOk Tryz.prog 27 s_Hash.fi :=
 fokS (E := s_Hash.E) (wy := ⟨[[none]], [[]], []⟩) (h := (fun gs => .a)) (G := fun t g => s_Hash.F (fun y0 => g y0) t.1) (by kernel_rfl) s_Hash.hE Tryz.func27 (by kernel_rfl) rfl (Nat.le_refl _) (fun t => HintOk.n1 (by kernel_rfl) (s_Hash.hok s_Hash.hE)) (fun t g => s_Hash.F_nat g (fun y0 => some y0) _) (fun t => by kernel_rfl)
def gq243.l1 {R : Type} (f : ((ByteArray × Unit) → Option (Bool × Unit))) (kke0 : Option R) (kkr : Int → Option R) : Nat → List ByteArray → Int → Int → Option R
 | 0, _, _, _ => none
 | n + 1, s, i, i1 =>
  cond (decide (i1 < i)) (
   grd (gIx i1 (List.length s)) <|
   (f (rdE (.str : Kd) s (Int.toNat i1), ())).bind fun r =>
   cond (r.1) (kkr i1) (gq243.l1 f kke0 kkr n s i (IntKind.wrap .i64 (i1 + (1 : Int))))) (kke0)
theorem gq243.l1_nat {R S : Type} (g : R → Option S) (f : ((ByteArray × Unit) → Option (Bool × Unit))) (kke0 : Option R) (kkr : Int → Option R) : ∀ n s i i1, gq243.l1 f (kke0.bind g) (fun y0 => (kkr y0).bind g) n s i i1 = (gq243.l1 f kke0 kkr n s i i1).bind g := by
 intro n
 induction n with
 | zero => intros; rfl
 | succ n ih => intros; simp only [gq243.l1, grd_bind, cnd_bind, bnd_bind, non_bind, ih]
def gq243.F {R : Type} (kk : Int → Option R) (s : List ByteArray) (f : ((ByteArray × Unit) → Option (Bool × Unit))) : Option R :=
 gq243.l1 f (kk (-1 : Int)) (fun i => kk i) fuel s (List.length s : Int) (0 : Int)
theorem gq243.F_nat {R S : Type} (g : R → Option S) (kk : Int → Option R) (s f) : gq243.F (fun y0 => (kk y0).bind g) s f = (gq243.F kk s f).bind g := by
 simp only [gq243.F, grd_bind, cnd_bind, bnd_bind, non_bind, ← gq243.l1_nat]
def gq243 (s : List ByteArray) (f : ((ByteArray × Unit) → Option (Bool × Unit))) : Option Int := gq243.F (fun y0 => some y0) s f
def gq243.out : Int → CRes := fun a => ⟨encL SV.enc [.one (.int .i64)] (a, ()), [encL SC.enc [] (), encL SC.enc [] ()]⟩
def gq243.ps : List PS := [.val [some (.str, false)], .fn [.one (.bool)]]
def gq243.sA : List SA := [.v (.one (.slv [] .str)), .fn [.one (.str)] [.one (.bool)]]
def gq243.fi : FI := FIs gq243.sA (Int) (fun t => gq243 t.1 t.2.1) gq243.out gq243.ps
def gq243.E : Env := ⟨tt, lkF [], 19, 0, [], [], []⟩
def gq243.sh1 : SK := ⟨[.v (.one (.slv [1] .str)), .v (.one (.fv 0)), .v (.one (.int .i64)), .v (.one (.int .i64))], []⟩
def gq243.sh1e0 : SK := ⟨[], []⟩
def gq243.sh1r : SK := ⟨[.v (.one (.int .i64))], []⟩
def gq243.ko1 : Ex → List CastAt × List Nat
 | .nrm => ([], [])
 | .ret => ([], [4])
 | .ext i => cond (Nat.beq i 0) ([], []) ([], [])
def gq243.G1 (f : ((ByteArray × Unit) → Option (Bool × Unit))) (n : Nat) (R : Type) (t : gq243.sh1.T) (K : Ex → Kp → Option R) : Option R := gq243.l1 f (K (.ext 0) (SK.enc gq243.sh1e0 ((), ()))) (fun y0 => K .ret (SK.enc gq243.sh1r ((y0, ()), ()))) n t.1.1 t.1.2.2.1 t.1.2.2.2.1
def gq243.S1 (f : ((ByteArray × Unit) → Option (Bool × Unit))) : Sum := ⟨([], [0, 1, 7, 8]), sumF gq243.sh1 (gq243.G1 f fuel), gq243.ko1⟩
theorem gq243.ok1 (f : ((ByteArray × Unit) → Option (Bool × Unit))) (hE : EOk Tryz.prog (gq243.E)) : SumOk Tryz.prog { (gq243.E) with gv := [fnE [.one (.str)] [.one (.bool)] f] } (cB (cR (cL (cR (bodyOf Tryz.f243))))) (gq243.S1 f) := by
 have hh : HintOk Tryz.prog { (gq243.E) with gv := [fnE [.one (.str)] [.one (.bool)] f] } (cB (cB (cR (cL (cR (bodyOf Tryz.f243)))))) (.a) := HintOk.n1 (Q := True) (by kernel_rfl) trivial
 have h := loopS (kin := ([], [0, 1, 7, 8])) (kout := gq243.ko1) (sh := gq243.sh1) (F := gq243.G1 f) (ops_ok (hE.gv _)) (by kernel_rfl) hh (fun _ _ _ => rfl) (fun n R t K => by kernel_rfl) fuel
 exact HintOk.n1 (c := (cB (cR (cL (cR (bodyOf Tryz.f243)))))) (h := .s (gq243.S1 f)) (P := Tryz.prog) (E := { (gq243.E) with gv := [fnE [.one (.str)] [.one (.bool)] f] }) (by kernel_rfl) h
theorem gq243.hok (f : ((ByteArray × Unit) → Option (Bool × Unit))) (hE : EOk Tryz.prog (gq243.E)) : HintOk Tryz.prog { (gq243.E) with gv := [fnE [.one (.str)] [.one (.bool)] f] } (bodyOf Tryz.f243) (.n (.a) (.n (.n (.a) (.b (.s (gq243.S1 f)))) (.a))) := HintOk.n1 (Q := (True) ∧ (((True) ∧ (SumOk Tryz.prog { (gq243.E) with gv := [fnE [.one (.str)] [.one (.bool)] f] } (cB (cR (cL (cR (bodyOf Tryz.f243))))) (gq243.S1 f))) ∧ (True))) (by kernel_rfl) ⟨trivial, ⟨⟨trivial, (gq243.ok1 f hE)⟩, trivial⟩⟩
theorem gq243.hE : EOk Tryz.prog (gq243.E) := EOk.of ttOk (trivial)
theorem gq243.fok : FOk Tryz.prog 243 gq243.fi :=
 fokS (E := gq243.E) (wy := ⟨[[none]], [[], []], []⟩) (h := (fun gs => let f := fnP [.one (.str)] [.one (.bool)] (gN 0 gs); .n (.a) (.n (.n (.a) (.b (.s (gq243.S1 f)))) (.a)))) (G := fun t g => gq243.F (fun y0 => g y0) t.1 t.2.1) (by kernel_rfl) gq243.hE Tryz.func243 (by kernel_rfl) rfl (Nat.le_refl _) (fun t => HintOk.n1 (by kernel_rfl) (gq243.hok t.2.1 gq243.hE)) (fun t g => gq243.F_nat g (fun y0 => some y0) _ _) (fun t => by kernel_rfl)
def gq181.F {R : Type} (kk : Bool → Option R) (s : List ByteArray) (f : ((ByteArray × Unit) → Option (Bool × Unit))) : Option R :=
 (gq243 s f).bind fun r =>
 kk (decide (r ≥ (0 : Int)))
theorem gq181.F_nat {R S : Type} (g : R → Option S) (kk : Bool → Option R) (s f) : gq181.F (fun y0 => (kk y0).bind g) s f = (gq181.F kk s f).bind g := by
 simp only [gq181.F, grd_bind, cnd_bind, bnd_bind, non_bind]
def gq181 (s : List ByteArray) (f : ((ByteArray × Unit) → Option (Bool × Unit))) : Option Bool := gq181.F (fun y0 => some y0) s f
def gq181.out : Bool → CRes := fun a => ⟨encL SV.enc [.one (.bool)] (a, ()), [encL SC.enc [] (), encL SC.enc [] ()]⟩
def gq181.ps : List PS := [.val [some (.str, false)], .fn [.one (.bool)]]
def gq181.sA : List SA := [.v (.one (.slv [] .str)), .fn [.one (.str)] [.one (.bool)]]
def gq181.fi : FI := FIs gq181.sA (Bool) (fun t => gq181 t.1 t.2.1) gq181.out gq181.ps
def gq181.E : Env := ⟨tt, lkF [(243, gq243.fi)], 9, 0, [], [], []⟩
theorem gq181.hok (f : ((ByteArray × Unit) → Option (Bool × Unit))) (hE : EOk Tryz.prog (gq181.E)) : HintOk Tryz.prog { (gq181.E) with gv := [fnE [.one (.str)] [.one (.bool)] f] } (bodyOf Tryz.f181) (.a) := HintOk.n1 (Q := True) (by kernel_rfl) trivial
theorem gq181.hE : EOk Tryz.prog (gq181.E) := EOk.of ttOk (⟨gq243.fok, trivial⟩)
theorem gq181.fok : FOk Tryz.prog 181 gq181.fi :=
 fokS (E := gq181.E) (wy := ⟨[[none]], [[], []], []⟩) (h := (fun gs => let f := fnP [.one (.str)] [.one (.bool)] (gN 0 gs); .a)) (G := fun t g => gq181.F (fun y0 => g y0) t.1 t.2.1) (by kernel_rfl) gq181.hE Tryz.func181 (by kernel_rfl) rfl (Nat.le_refl _) (fun t => HintOk.n1 (by kernel_rfl) (gq181.hok t.2.1 gq181.hE)) (fun t g => gq181.F_nat g (fun y0 => some y0) _ _) (fun t => by kernel_rfl)
def gq193.F {R : Type} (kk : Bool → Option R) (t_ : ByteArray) : Option R :=
 kk ((ByteArray.size t_ : Int) != (32 : Int))
theorem gq193.F_nat {R S : Type} (g : R → Option S) (kk : Bool → Option R) (t_) : gq193.F (fun y0 => (kk y0).bind g) t_ = (gq193.F kk t_).bind g := by
 simp only [gq193.F, grd_bind, cnd_bind, bnd_bind, non_bind]
def gq193 (t_ : ByteArray) : Option Bool := gq193.F (fun y0 => some y0) t_
def gq193.out : Bool → CRes := fun a => ⟨encL SV.enc [.one (.bool)] (a, ()), [encL SC.enc [] ()]⟩
def gq193.ps : List PS := [.val [none]]
def gq193.sA : List SA := [.v (.one (.str))]
def gq193.fi : FI := FIs gq193.sA (Bool) (fun t => gq193 t.1) gq193.out gq193.ps
def gq193.E : Env := ⟨tt, lkF [], 6, 0, [], [], []⟩
theorem gq193.hok (hE : EOk Tryz.prog (gq193.E)) : HintOk Tryz.prog gq193.E (bodyOf Tryz.f193) (.a) := HintOk.n1 (Q := True) (by kernel_rfl) trivial
theorem gq193.hE : EOk Tryz.prog (gq193.E) := EOk.of ttOk (trivial)
theorem gq193.fok : FOk Tryz.prog 193 gq193.fi :=
 fokS (E := gq193.E) (wy := ⟨[[none]], [[]], []⟩) (h := (fun gs => .a)) (G := fun t g => gq193.F (fun y0 => g y0) t.1) (by kernel_rfl) gq193.hE Tryz.func193 (by kernel_rfl) rfl (Nat.le_refl _) (fun t => HintOk.n1 (by kernel_rfl) (gq193.hok gq193.hE)) (fun t g => gq193.F_nat g (fun y0 => some y0) _) (fun t => by kernel_rfl)
def gq111.F {R : Type} (kk : Bool → Option R) (texts : List ByteArray) : Option R :=
 (gq181 texts (fun t => (gq193 t.1).bind fun a => some (a, ()))).bind fun r =>
 kk (!r)
theorem gq111.F_nat {R S : Type} (g : R → Option S) (kk : Bool → Option R) (texts) : gq111.F (fun y0 => (kk y0).bind g) texts = (gq111.F kk texts).bind g := by
 simp only [gq111.F, grd_bind, cnd_bind, bnd_bind, non_bind]
def gq111 (texts : List ByteArray) : Option Bool := gq111.F (fun y0 => some y0) texts
def gq111.out : Bool → CRes := fun a => ⟨encL SV.enc [.one (.bool)] (a, ()), [encL SC.enc [] ()]⟩
def gq111.ps : List PS := [.val [some (.str, false)]]
def gq111.sA : List SA := [.v (.one (.slv [] .str))]
def gq111.fi : FI := FIs gq111.sA (Bool) (fun t => gq111 t.1) gq111.out gq111.ps
def gq111.E : Env := ⟨tt, lkF [(181, gq181.fi), (193, gq193.fi)], 6, 0, [], [], []⟩
theorem gq111.hok (hE : EOk Tryz.prog (gq111.E)) : HintOk Tryz.prog gq111.E (bodyOf Tryz.f111) (.a) := HintOk.n1 (Q := True) (by kernel_rfl) trivial
theorem gq111.hE : EOk Tryz.prog (gq111.E) := EOk.of ttOk (⟨gq181.fok, ⟨gq193.fok, trivial⟩⟩)
theorem gq111.fok : FOk Tryz.prog 111 gq111.fi :=
 fokS (E := gq111.E) (wy := ⟨[[none]], [[]], []⟩) (h := (fun gs => .a)) (G := fun t g => gq111.F (fun y0 => g y0) t.1) (by kernel_rfl) gq111.hE Tryz.func111 (by kernel_rfl) rfl (Nat.le_refl _) (fun t => HintOk.n1 (by kernel_rfl) (gq111.hok gq111.hE)) (fun t g => gq111.F_nat g (fun y0 => some y0) _) (fun t => by kernel_rfl)
def gq178.F {R : Type} (kk : Bool → Option R) (list : List ByteArray) : Option R :=
 kk (decide ((List.length list : Int) ≤ (4096 : Int)))
theorem gq178.F_nat {R S : Type} (g : R → Option S) (kk : Bool → Option R) (list) : gq178.F (fun y0 => (kk y0).bind g) list = (gq178.F kk list).bind g := by
 simp only [gq178.F, grd_bind, cnd_bind, bnd_bind, non_bind]
def gq178 (list : List ByteArray) : Option Bool := gq178.F (fun y0 => some y0) list
def gq178.out : Bool → CRes := fun a => ⟨encL SV.enc [.one (.bool)] (a, ()), [encL SC.enc [] ()]⟩
def gq178.ps : List PS := [.val [some (.str, false)]]
def gq178.sA : List SA := [.v (.one (.slv [] .str))]
def gq178.fi : FI := FIs gq178.sA (Bool) (fun t => gq178 t.1) gq178.out gq178.ps
def gq178.E : Env := ⟨tt, lkF [], 6, 0, [], [], []⟩
theorem gq178.hok (hE : EOk Tryz.prog (gq178.E)) : HintOk Tryz.prog gq178.E (bodyOf Tryz.f178) (.a) := HintOk.n1 (Q := True) (by kernel_rfl) trivial
theorem gq178.hE : EOk Tryz.prog (gq178.E) := EOk.of ttOk (trivial)
theorem gq178.fok : FOk Tryz.prog 178 gq178.fi :=
 fokS (E := gq178.E) (wy := ⟨[[none]], [[]], []⟩) (h := (fun gs => .a)) (G := fun t g => gq178.F (fun y0 => g y0) t.1) (by kernel_rfl) gq178.hE Tryz.func178 (by kernel_rfl) rfl (Nat.le_refl _) (fun t => HintOk.n1 (by kernel_rfl) (gq178.hok gq178.hE)) (fun t g => gq178.F_nat g (fun y0 => some y0) _) (fun t => by kernel_rfl)
def gq91.F {R : Type} (kk : Int → Option R) (leaves : List ByteArray) : Option R :=
 (gq178 leaves).bind fun r =>
 cond (!r) (kk (2 : Int)) (
  cond (decide ((List.length leaves : Int) > (64 : Int))) (kk (1 : Int)) (
   (gq111 leaves).bind fun r1 =>
   cond (!r1) (kk (1 : Int)) (kk (0 : Int))))
theorem gq91.F_nat {R S : Type} (g : R → Option S) (kk : Int → Option R) (leaves) : gq91.F (fun y0 => (kk y0).bind g) leaves = (gq91.F kk leaves).bind g := by
 simp only [gq91.F, grd_bind, cnd_bind, bnd_bind, non_bind]
def gq91 (leaves : List ByteArray) : Option Int := gq91.F (fun y0 => some y0) leaves
def gq91.out : Int → CRes := fun a => ⟨encL SV.enc [.one (.int .i64)] (a, ()), [encL SC.enc [] ()]⟩
def gq91.ps : List PS := [.val [some (.str, false)]]
def gq91.sA : List SA := [.v (.one (.slv [] .str))]
def gq91.fi : FI := FIs gq91.sA (Int) (fun t => gq91 t.1) gq91.out gq91.ps
def gq91.E : Env := ⟨tt, lkF [(111, gq111.fi), (178, gq178.fi)], 16, 0, [], [], []⟩
theorem gq91.hok (hE : EOk Tryz.prog (gq91.E)) : HintOk Tryz.prog gq91.E (bodyOf Tryz.f91) (.a) := HintOk.n1 (Q := True) (by kernel_rfl) trivial
theorem gq91.hE : EOk Tryz.prog (gq91.E) := EOk.of ttOk (⟨gq111.fok, ⟨gq178.fok, trivial⟩⟩)
theorem gq91.fok : FOk Tryz.prog 91 gq91.fi :=
 fokS (E := gq91.E) (wy := ⟨[[none]], [[]], []⟩) (h := (fun gs => .a)) (G := fun t g => gq91.F (fun y0 => g y0) t.1) (by kernel_rfl) gq91.hE Tryz.func91 (by kernel_rfl) rfl (Nat.le_refl _) (fun t => HintOk.n1 (by kernel_rfl) (gq91.hok gq91.hE)) (fun t g => gq91.F_nat g (fun y0 => some y0) _) (fun t => by kernel_rfl)
def gq92.F {R : Type} (kk : Bool → Option R) (n_ : Int) (low : Int) (high : Int) : Option R :=
 cond (decide (n_ ≥ low)) (kk (decide (n_ ≤ high))) (kk false)
theorem gq92.F_nat {R S : Type} (g : R → Option S) (kk : Bool → Option R) (n_ low high) : gq92.F (fun y0 => (kk y0).bind g) n_ low high = (gq92.F kk n_ low high).bind g := by
 simp only [gq92.F, grd_bind, cnd_bind, bnd_bind, non_bind]
def gq92 (n_ : Int) (low : Int) (high : Int) : Option Bool := gq92.F (fun y0 => some y0) n_ low high
def gq92.out : Bool → CRes := fun a => ⟨encL SV.enc [.one (.bool)] (a, ()), [encL SC.enc [] (), encL SC.enc [] (), encL SC.enc [] ()]⟩
def gq92.ps : List PS := [.val [none], .val [none], .val [none]]
def gq92.sA : List SA := [.v (.one (.int .i64)), .v (.one (.int .i64)), .v (.one (.int .i64))]
def gq92.fi : FI := FIs gq92.sA (Bool) (fun t => gq92 t.1 t.2.1 t.2.2.1) gq92.out gq92.ps
def gq92.E : Env := ⟨tt, lkF [], 15, 0, [], [], []⟩
theorem gq92.hok (hE : EOk Tryz.prog (gq92.E)) : HintOk Tryz.prog gq92.E (bodyOf Tryz.f92) (.a) := HintOk.n1 (Q := True) (by kernel_rfl) trivial
theorem gq92.hE : EOk Tryz.prog (gq92.E) := EOk.of ttOk (trivial)
theorem gq92.fok : FOk Tryz.prog 92 gq92.fi :=
 fokS (E := gq92.E) (wy := ⟨[[none]], [[], [], []], []⟩) (h := (fun gs => .a)) (G := fun t g => gq92.F (fun y0 => g y0) t.1 t.2.1 t.2.2.1) (by kernel_rfl) gq92.hE Tryz.func92 (by kernel_rfl) rfl (Nat.le_refl _) (fun t => HintOk.n1 (by kernel_rfl) (gq92.hok gq92.hE)) (fun t g => gq92.F_nat g (fun y0 => some y0) _ _ _) (fun t => by kernel_rfl)
theorem rep_ex : ∃ f : (ByteArray → Nat → ByteArray) × (ByteArray → Int → Bool), f.1 = (fun s c => ⟨(Lib.repeatL s.data.toList c).toArray⟩) ∧ f.2 = (fun s n => decide (0 ≤ n ∧ n ≤ 9223372036854775807 ∧ s.size * n.toNat ≤ 140737488355328)) := ⟨(_, _), rfl, rfl⟩
noncomputable def repS : ByteArray → Nat → ByteArray := (Classical.choose rep_ex).1
noncomputable def gRep : ByteArray → Int → Bool := (Classical.choose rep_ex).2
theorem repS_eq (s : ByteArray) (c : Nat) : repS s c = ⟨(Lib.repeatL s.data.toList c).toArray⟩ := congrFun (congrFun (Classical.choose_spec rep_ex).1 s) c
theorem gRep_eq (s : ByteArray) (n : Int) : gRep s n = decide (0 ≤ n ∧ n ≤ 9223372036854775807 ∧ s.size * n.toNat ≤ 140737488355328) := congrFun (congrFun (Classical.choose_spec rep_ex).2 s) n
noncomputable def gq207.F {R : Type} (kk : ByteArray → Option R) (s : ByteArray) (n : Int) : Option R := grd (gRep s n) <| kk (repS s n.toNat)
theorem gq207_ex : ∃ f : ByteArray → Int → Option ByteArray, f = fun s n => gq207.F (fun y0 => some y0) s n := ⟨_, rfl⟩
noncomputable def gq207 : ByteArray → Int → Option ByteArray := Classical.choose gq207_ex
theorem gq207_eq (s : ByteArray) (n : Int) : gq207 s n = gq207.F (fun y0 => some y0) s n := congrFun (congrFun (Classical.choose_spec gq207_ex) s) n
def gq207.out : (ByteArray) → CRes := fun a => ⟨encL SV.enc [.one (.str)] (a, ()), [encL SC.enc [] (), encL SC.enc [] ()]⟩
def gq207.ps : List PS := [.val [none], .val [none]]
def gq207.sA : List SA := [.v (.one (.str)), .v (.one (.int .i64))]
noncomputable def gq207.fi : FI := FIs gq207.sA (ByteArray) (fun t => gq207 t.1 t.2.1) gq207.out gq207.ps
theorem gq207.fok : FOk Tryz.prog 207 gq207.fi := by
 refine fok_ext ⟨_, _, Tryz.func207, by kernel_rfl, rfl⟩ (by kernel_rfl) (fun a => [.str a]) (fun a => by kernel_rfl) (fun a => by kernel_rfl) (fun t a h w => ?_)
 obtain ⟨s, n, u⟩ := t
 have h' : grd (gRep s n) (some (repS s n.toNat)) = some a := (gq207_eq s n).symm.trans h
 cases hg : gRep s n with
 | false => rw [hg] at h'; cases h'
 | true =>
  rw [hg] at h'
  obtain rfl := Option.some.inj h'
  rw [gRep_eq] at hg
  obtain ⟨h0, h1, h2⟩ := of_decide_eq_true hg
  rw [repS_eq]
  have := Tryz.strings_Repeat s n.toNat w (by omega) h2
  rw [Int.toNat_of_nonneg h0] at this
  exact this
def gq208.l1 {R : Type} (kke0 : List Int → Option R) : Nat → Int → Int → List Int → Option R
 | 0, _, _, _ => none
 | n + 1, n_, i, out =>
  cond (decide (i ≥ (0 : Int))) (
   grd (gIx i (List.length out)) <|
   grd (gSh (8 : Int)) <|
   gq208.l1 kke0 n (iShr .i64 n_ (8 : Int)) (IntKind.wrap .i64 (i - (1 : Int))) (setE (.int .u8 : Kd) out (Int.toNat i) (IntKind.wrap .u8 n_))) (kke0 out)
theorem gq208.l1_nat {R S : Type} (g : R → Option S) (kke0 : List Int → Option R) : ∀ n n_ i out, gq208.l1 (fun y0 => (kke0 y0).bind g) n n_ i out = (gq208.l1 kke0 n n_ i out).bind g := by
 intro n
 induction n with
 | zero => intros; rfl
 | succ n ih => intros; simp only [gq208.l1, grd_bind, cnd_bind, bnd_bind, non_bind, ih]
def gq208.F {R : Type} (kk : ByteArray → Option R) (n_ : Int) (many : Int) : Option R :=
 grd (gMk many many 1) <|
 gq208.l1 (fun out => kk (strL out)) fuel n_ (IntKind.wrap .i64 (many - (1 : Int))) (List.replicate (Int.toNat many) (0 : Int))
theorem gq208.F_nat {R S : Type} (g : R → Option S) (kk : ByteArray → Option R) (n_ many) : gq208.F (fun y0 => (kk y0).bind g) n_ many = (gq208.F kk n_ many).bind g := by
 simp only [gq208.F, grd_bind, cnd_bind, bnd_bind, non_bind, ← gq208.l1_nat]
def gq208 (n_ : Int) (many : Int) : Option ByteArray := gq208.F (fun y0 => some y0) n_ many
def gq208.out : ByteArray → CRes := fun a => ⟨encL SV.enc [.one (.str)] (a, ()), [encL SC.enc [] (), encL SC.enc [] ()]⟩
def gq208.ps : List PS := [.val [none], .val [none]]
def gq208.sA : List SA := [.v (.one (.int .i64)), .v (.one (.int .i64))]
def gq208.fi : FI := FIs gq208.sA (ByteArray) (fun t => gq208 t.1 t.2.1) gq208.out gq208.ps
def gq208.E : Env := ⟨tt, lkF [], 24, 0, [], [], []⟩
def gq208.sh1 : SK := ⟨[.v (.one (.int .i64)), .v (.one (.slo 0)), .v (.one (.int .i64))], [.arr (.int .u8) [] true]⟩
def gq208.sh1e0 : SK := ⟨[.v (.one (.slo 0))], [.arr (.int .u8) [] true]⟩
def gq208.ko1 : Ex → List CastAt × List Nat
 | .nrm => ([], [])
 | .ret => ([], [])
 | .ext i => cond (Nat.beq i 0) ([], [5]) ([], [])
def gq208.G1 (n : Nat) (R : Type) (t : gq208.sh1.T) (K : Ex → Kp → Option R) : Option R := gq208.l1 (fun y0 => K (.ext 0) (SK.enc gq208.sh1e0 (((), ()), (y0, ())))) n t.1.1 t.1.2.2.1 t.2.1
def gq208.S1 : Sum := ⟨([], [0, 5, 6]), sumF gq208.sh1 (gq208.G1 fuel), gq208.ko1⟩
theorem gq208.ok1 (hE : EOk Tryz.prog (gq208.E)) : SumOk Tryz.prog gq208.E (cB (cR (cL (cR (cR (bodyOf Tryz.f208)))))) (gq208.S1) := by
 have hh : HintOk Tryz.prog gq208.E (cB (cB (cR (cL (cR (cR (bodyOf Tryz.f208))))))) (.a) := HintOk.n1 (Q := True) (by kernel_rfl) trivial
 have h := loopS (kin := ([], [0, 5, 6])) (kout := gq208.ko1) (sh := gq208.sh1) (F := gq208.G1) (ops_ok (hE.gv _)) (by kernel_rfl) hh (fun _ _ _ => rfl) (fun n R t K => by kernel_rfl) fuel
 exact HintOk.n1 (c := (cB (cR (cL (cR (cR (bodyOf Tryz.f208))))))) (h := .s (gq208.S1)) (P := Tryz.prog) (E := gq208.E) (by kernel_rfl) h
theorem gq208.hok (hE : EOk Tryz.prog (gq208.E)) : HintOk Tryz.prog gq208.E (bodyOf Tryz.f208) (.n (.a) (.n (.a) (.n (.n (.a) (.b (.s (gq208.S1)))) (.a)))) := HintOk.n1 (Q := (True) ∧ ((True) ∧ (((True) ∧ (SumOk Tryz.prog gq208.E (cB (cR (cL (cR (cR (bodyOf Tryz.f208)))))) (gq208.S1))) ∧ (True)))) (by kernel_rfl) ⟨trivial, ⟨trivial, ⟨⟨trivial, (gq208.ok1 hE)⟩, trivial⟩⟩⟩
theorem gq208.hE : EOk Tryz.prog (gq208.E) := EOk.of ttOk (trivial)
theorem gq208.fok : FOk Tryz.prog 208 gq208.fi :=
 fokS (E := gq208.E) (wy := ⟨[[none]], [[], []], []⟩) (h := (fun gs => .n (.a) (.n (.a) (.n (.n (.a) (.b (.s (gq208.S1)))) (.a))))) (G := fun t g => gq208.F (fun y0 => g y0) t.1 t.2.1) (by kernel_rfl) gq208.hE Tryz.func208 (by kernel_rfl) rfl (Nat.le_refl _) (fun t => HintOk.n1 (by kernel_rfl) (gq208.hok gq208.hE)) (fun t g => gq208.F_nat g (fun y0 => some y0) _ _) (fun t => by kernel_rfl)
def gq209.F {R : Type} (kk : List Int → Option R) : Option R :=
 kk [(1779033703 : Int), (3144134277 : Int), (1013904242 : Int), (2773480762 : Int), (1359893119 : Int), (2600822924 : Int), (528734635 : Int), (1541459225 : Int)]
theorem gq209.F_nat {R S : Type} (g : R → Option S) (kk : List Int → Option R) : gq209.F (fun y0 => (kk y0).bind g) = (gq209.F kk).bind g := by
 simp only [gq209.F, grd_bind, cnd_bind, bnd_bind, non_bind]
theorem gq209_ex : ∃ f : Option (List Int), f = gq209.F (fun y0 => some y0) := ⟨_, rfl⟩
noncomputable def gq209 : Option (List Int) := Classical.choose gq209_ex
theorem gq209_eq : gq209 = gq209.F (fun y0 => some y0) := (Classical.choose_spec gq209_ex)
theorem gq209_nat {S : Type} (g : (List Int) → Option S) : gq209.F (fun y0 => g y0) = (gq209).bind g := by
 rw [gq209_eq]
 exact gq209.F_nat g (fun y0 => some y0)
def gq209.out : (List Int) → CRes := fun a => ⟨encL SV.enc [.vec 8 (.int .u32)] (a, ()), []⟩
def gq209.ps : List PS := []
def gq209.sA : List SA := []
def gq209.fi : FI := FIs gq209.sA (List Int) (fun t => gq209) gq209.out gq209.ps
def gq209.E : Env := ⟨tt, lkF [], 2, 0, [], [], []⟩
theorem gq209.hok (hE : EOk Tryz.prog (gq209.E)) : HintOk Tryz.prog gq209.E (bodyOf Tryz.f209) (.a) := HintOk.n1 (Q := True) (by kernel_rfl) trivial
theorem gq209.hE : EOk Tryz.prog (gq209.E) := EOk.of ttOk (trivial)
theorem gq209.fok : FOk Tryz.prog 209 gq209.fi :=
 fokS (E := gq209.E) (wy := ⟨[[]], [], []⟩) (h := (fun gs => .a)) (G := fun t g => gq209.F (fun y0 => g y0)) (by kernel_rfl) gq209.hE Tryz.func209 (by kernel_rfl) rfl (Nat.le_refl _) (fun t => HintOk.n1 (by kernel_rfl) (gq209.hok gq209.hE)) (fun t g => gq209_nat g) (fun t => by kernel_rfl)
def gq210.F {R : Type} (kk : List Int → Option R) : Option R :=
 kk [(1116352408 : Int), (1899447441 : Int), (3049323471 : Int), (3921009573 : Int), (961987163 : Int), (1508970993 : Int), (2453635748 : Int), (2870763221 : Int), (3624381080 : Int), (310598401 : Int), (607225278 : Int), (1426881987 : Int), (1925078388 : Int), (2162078206 : Int), (2614888103 : Int), (3248222580 : Int), (3835390401 : Int), (4022224774 : Int), (264347078 : Int), (604807628 : Int), (770255983 : Int), (1249150122 : Int), (1555081692 : Int), (1996064986 : Int), (2554220882 : Int), (2821834349 : Int), (2952996808 : Int), (3210313671 : Int), (3336571891 : Int), (3584528711 : Int), (113926993 : Int), (338241895 : Int), (666307205 : Int), (773529912 : Int), (1294757372 : Int), (1396182291 : Int), (1695183700 : Int), (1986661051 : Int), (2177026350 : Int), (2456956037 : Int), (2730485921 : Int), (2820302411 : Int), (3259730800 : Int), (3345764771 : Int), (3516065817 : Int), (3600352804 : Int), (4094571909 : Int), (275423344 : Int), (430227734 : Int), (506948616 : Int), (659060556 : Int), (883997877 : Int), (958139571 : Int), (1322822218 : Int), (1537002063 : Int), (1747873779 : Int), (1955562222 : Int), (2024104815 : Int), (2227730452 : Int), (2361852424 : Int), (2428436474 : Int), (2756734187 : Int), (3204031479 : Int), (3329325298 : Int)]
theorem gq210.F_nat {R S : Type} (g : R → Option S) (kk : List Int → Option R) : gq210.F (fun y0 => (kk y0).bind g) = (gq210.F kk).bind g := by
 simp only [gq210.F, grd_bind, cnd_bind, bnd_bind, non_bind]
theorem gq210_ex : ∃ f : Option (List Int), f = gq210.F (fun y0 => some y0) := ⟨_, rfl⟩
noncomputable def gq210 : Option (List Int) := Classical.choose gq210_ex
theorem gq210_eq : gq210 = gq210.F (fun y0 => some y0) := (Classical.choose_spec gq210_ex)
theorem gq210_nat {S : Type} (g : (List Int) → Option S) : gq210.F (fun y0 => g y0) = (gq210).bind g := by
 rw [gq210_eq]
 exact gq210.F_nat g (fun y0 => some y0)
def gq210.out : (List Int) → CRes := fun a => ⟨encL SV.enc [.vec 64 (.int .u32)] (a, ()), []⟩
def gq210.ps : List PS := []
def gq210.sA : List SA := []
def gq210.fi : FI := FIs gq210.sA (List Int) (fun t => gq210) gq210.out gq210.ps
def gq210.E : Env := ⟨tt, lkF [], 2, 0, [], [], []⟩
theorem gq210.hok (hE : EOk Tryz.prog (gq210.E)) : HintOk Tryz.prog gq210.E (bodyOf Tryz.f210) (.a) := HintOk.n1 (Q := True) (by kernel_rfl) trivial
theorem gq210.hE : EOk Tryz.prog (gq210.E) := EOk.of ttOk (trivial)
theorem gq210.fok : FOk Tryz.prog 210 gq210.fi :=
 fokS (E := gq210.E) (wy := ⟨[[]], [], []⟩) (h := (fun gs => .a)) (G := fun t g => gq210.F (fun y0 => g y0)) (by kernel_rfl) gq210.hE Tryz.func210 (by kernel_rfl) rfl (Nat.le_refl _) (fun t => HintOk.n1 (by kernel_rfl) (gq210.hok gq210.hE)) (fun t g => gq210_nat g) (fun t => by kernel_rfl)
def gq335.F {R : Type} (kk : Int → Option R) (x : Int) (k_ : Int) : Option R :=
 grd (gSh (iAnd .u64 (IntKind.wrap .u64 k_) (31 : Int))) <|
 grd (gSh (IntKind.wrap .u64 ((32 : Int) - (iAnd .u64 (IntKind.wrap .u64 k_) (31 : Int))))) <|
 kk (iOr .u32 (iShl .u32 x (iAnd .u64 (IntKind.wrap .u64 k_) (31 : Int))) (iShr .u32 x (IntKind.wrap .u64 ((32 : Int) - (iAnd .u64 (IntKind.wrap .u64 k_) (31 : Int))))))
theorem gq335.F_nat {R S : Type} (g : R → Option S) (kk : Int → Option R) (x k_) : gq335.F (fun y0 => (kk y0).bind g) x k_ = (gq335.F kk x k_).bind g := by
 simp only [gq335.F, grd_bind, cnd_bind, bnd_bind, non_bind]
def gq335 (x : Int) (k_ : Int) : Option Int := gq335.F (fun y0 => some y0) x k_
def gq335.out : Int → CRes := fun a => ⟨encL SV.enc [.one (.int .u32)] (a, ()), [encL SC.enc [] (), encL SC.enc [] ()]⟩
def gq335.ps : List PS := [.val [none], .val [none]]
def gq335.sA : List SA := [.v (.one (.int .u32)), .v (.one (.int .i64))]
def gq335.fi : FI := FIs gq335.sA (Int) (fun t => gq335 t.1 t.2.1) gq335.out gq335.ps
def gq335.E : Env := ⟨tt, lkF [], 17, 0, [], [], []⟩
theorem gq335.hok (hE : EOk Tryz.prog (gq335.E)) : HintOk Tryz.prog gq335.E (bodyOf Tryz.f335) (.a) := HintOk.n1 (Q := True) (by kernel_rfl) trivial
theorem gq335.hE : EOk Tryz.prog (gq335.E) := EOk.of ttOk (trivial)
theorem gq335.fok : FOk Tryz.prog 335 gq335.fi :=
 fokS (E := gq335.E) (wy := ⟨[[none]], [[], []], []⟩) (h := (fun gs => .a)) (G := fun t g => gq335.F (fun y0 => g y0) t.1 t.2.1) (by kernel_rfl) gq335.hE Tryz.func335 (by kernel_rfl) rfl (Nat.le_refl _) (fun t => HintOk.n1 (by kernel_rfl) (gq335.hok gq335.hE)) (fun t g => gq335.F_nat g (fun y0 => some y0) _ _) (fun t => by kernel_rfl)
def gq277.F {R : Type} (kk : Int → Option R) (x : Int) (by_ : Int) : Option R :=
 (gq335 x (IntKind.wrap .i64 (0 - by_))).bind fun r =>
 kk r
theorem gq277.F_nat {R S : Type} (g : R → Option S) (kk : Int → Option R) (x by_) : gq277.F (fun y0 => (kk y0).bind g) x by_ = (gq277.F kk x by_).bind g := by
 simp only [gq277.F, grd_bind, cnd_bind, bnd_bind, non_bind]
def gq277 (x : Int) (by_ : Int) : Option Int := gq277.F (fun y0 => some y0) x by_
def gq277.out : Int → CRes := fun a => ⟨encL SV.enc [.one (.int .u32)] (a, ()), [encL SC.enc [] (), encL SC.enc [] ()]⟩
def gq277.ps : List PS := [.val [none], .val [none]]
def gq277.sA : List SA := [.v (.one (.int .u32)), .v (.one (.int .i64))]
def gq277.fi : FI := FIs gq277.sA (Int) (fun t => gq277 t.1 t.2.1) gq277.out gq277.ps
def gq277.E : Env := ⟨tt, lkF [(335, gq335.fi)], 9, 0, [], [], []⟩
theorem gq277.hok (hE : EOk Tryz.prog (gq277.E)) : HintOk Tryz.prog gq277.E (bodyOf Tryz.f277) (.a) := HintOk.n1 (Q := True) (by kernel_rfl) trivial
theorem gq277.hE : EOk Tryz.prog (gq277.E) := EOk.of ttOk (⟨gq335.fok, trivial⟩)
theorem gq277.fok : FOk Tryz.prog 277 gq277.fi :=
 fokS (E := gq277.E) (wy := ⟨[[none]], [[], []], []⟩) (h := (fun gs => .a)) (G := fun t g => gq277.F (fun y0 => g y0) t.1 t.2.1) (by kernel_rfl) gq277.hE Tryz.func277 (by kernel_rfl) rfl (Nat.le_refl _) (fun t => HintOk.n1 (by kernel_rfl) (gq277.hok gq277.hE)) (fun t g => gq277.F_nat g (fun y0 => some y0) _ _) (fun t => by kernel_rfl)
def gq276.l1 {R : Type} (kke0 : List Int → List Int → Option R) : Nat → ByteArray → Int → List Int → List Int → Option R
 | 0, _, _, _, _ => none
 | n + 1, block, i, l, w =>
  cond (decide (i < (64 : Int))) (
   cond (decide (i < (16 : Int))) (
    grd (gIx (IntKind.wrap .i64 ((4 : Int) * i)) (ByteArray.size block)) <|
    grd (gSh (24 : Int)) <|
    grd (gIx (IntKind.wrap .i64 ((IntKind.wrap .i64 ((4 : Int) * i)) + (1 : Int))) (ByteArray.size block)) <|
    grd (gSh (16 : Int)) <|
    grd (gIx (IntKind.wrap .i64 ((IntKind.wrap .i64 ((4 : Int) * i)) + (2 : Int))) (ByteArray.size block)) <|
    grd (gSh (8 : Int)) <|
    grd (gIx (IntKind.wrap .i64 ((IntKind.wrap .i64 ((4 : Int) * i)) + (3 : Int))) (ByteArray.size block)) <|
    grd (gIx i 64) <|
    gq276.l1 kke0 n block (IntKind.wrap .i64 (i + (1 : Int))) l (setE (.int .u32 : Kd) w (Int.toNat i) (iOr .u32 (iOr .u32 (iOr .u32 (iShl .u32 (IntKind.wrap .u32 (byteAt block (IntKind.wrap .i64 ((4 : Int) * i)))) (24 : Int)) (iShl .u32 (IntKind.wrap .u32 (byteAt block (IntKind.wrap .i64 ((IntKind.wrap .i64 ((4 : Int) * i)) + (1 : Int))))) (16 : Int))) (iShl .u32 (IntKind.wrap .u32 (byteAt block (IntKind.wrap .i64 ((IntKind.wrap .i64 ((4 : Int) * i)) + (2 : Int))))) (8 : Int))) (IntKind.wrap .u32 (byteAt block (IntKind.wrap .i64 ((IntKind.wrap .i64 ((4 : Int) * i)) + (3 : Int)))))))) (
    grd (gIx (IntKind.wrap .i64 (i - (15 : Int))) 64) <|
    grd (gIx (IntKind.wrap .i64 (i - (2 : Int))) 64) <|
    (gq277 (rdE (.int .u32 : Kd) w (Int.toNat (IntKind.wrap .i64 (i - (15 : Int))))) (7 : Int)).bind fun r =>
    (gq277 (rdE (.int .u32 : Kd) w (Int.toNat (IntKind.wrap .i64 (i - (15 : Int))))) (18 : Int)).bind fun r1 =>
    grd (gSh (3 : Int)) <|
    (gq277 (rdE (.int .u32 : Kd) w (Int.toNat (IntKind.wrap .i64 (i - (2 : Int))))) (17 : Int)).bind fun r2 =>
    (gq277 (rdE (.int .u32 : Kd) w (Int.toNat (IntKind.wrap .i64 (i - (2 : Int))))) (19 : Int)).bind fun r3 =>
    grd (gSh (10 : Int)) <|
    grd (gIx (IntKind.wrap .i64 (i - (16 : Int))) 64) <|
    grd (gIx (IntKind.wrap .i64 (i - (7 : Int))) 64) <|
    grd (gIx i 64) <|
    gq276.l1 kke0 n block (IntKind.wrap .i64 (i + (1 : Int))) l (setE (.int .u32 : Kd) w (Int.toNat i) (IntKind.wrap .u32 ((IntKind.wrap .u32 ((IntKind.wrap .u32 ((rdE (.int .u32 : Kd) w (Int.toNat (IntKind.wrap .i64 (i - (16 : Int))))) + (iXor .u32 (iXor .u32 r r1) (iShr .u32 (rdE (.int .u32 : Kd) w (Int.toNat (IntKind.wrap .i64 (i - (15 : Int))))) (3 : Int))))) + (rdE (.int .u32 : Kd) w (Int.toNat (IntKind.wrap .i64 (i - (7 : Int))))))) + (iXor .u32 (iXor .u32 r2 r3) (iShr .u32 (rdE (.int .u32 : Kd) w (Int.toNat (IntKind.wrap .i64 (i - (2 : Int))))) (10 : Int)))))))) (kke0 l w)
theorem gq276.l1_nat {R S : Type} (g : R → Option S) (kke0 : List Int → List Int → Option R) : ∀ n block i l w, gq276.l1 (fun y0 y1 => (kke0 y0 y1).bind g) n block i l w = (gq276.l1 kke0 n block i l w).bind g := by
 intro n
 induction n with
 | zero => intros; rfl
 | succ n ih => intros; simp only [gq276.l1, grd_bind, cnd_bind, bnd_bind, non_bind, ih]
def gq276.F {R : Type} (kk : List Int → Option R) (block : ByteArray) : Option R :=
 gq276.l1 (fun l w => kk w) fuel block (0 : Int) (List.replicate 64 (0 : Int)) [(0 : Int), (0 : Int), (0 : Int), (0 : Int), (0 : Int), (0 : Int), (0 : Int), (0 : Int), (0 : Int), (0 : Int), (0 : Int), (0 : Int), (0 : Int), (0 : Int), (0 : Int), (0 : Int), (0 : Int), (0 : Int), (0 : Int), (0 : Int), (0 : Int), (0 : Int), (0 : Int), (0 : Int), (0 : Int), (0 : Int), (0 : Int), (0 : Int), (0 : Int), (0 : Int), (0 : Int), (0 : Int), (0 : Int), (0 : Int), (0 : Int), (0 : Int), (0 : Int), (0 : Int), (0 : Int), (0 : Int), (0 : Int), (0 : Int), (0 : Int), (0 : Int), (0 : Int), (0 : Int), (0 : Int), (0 : Int), (0 : Int), (0 : Int), (0 : Int), (0 : Int), (0 : Int), (0 : Int), (0 : Int), (0 : Int), (0 : Int), (0 : Int), (0 : Int), (0 : Int), (0 : Int), (0 : Int), (0 : Int), (0 : Int)]
theorem gq276.F_nat {R S : Type} (g : R → Option S) (kk : List Int → Option R) (block) : gq276.F (fun y0 => (kk y0).bind g) block = (gq276.F kk block).bind g := by
 simp only [gq276.F, grd_bind, cnd_bind, bnd_bind, non_bind, ← gq276.l1_nat]
def gq276 (block : ByteArray) : Option (List Int) := gq276.F (fun y0 => some y0) block
def gq276.out : (List Int) → CRes := fun a => ⟨encL SV.enc [.vec 64 (.int .u32)] (a, ()), [encL SC.enc [] ()]⟩
def gq276.ps : List PS := [.val [none]]
def gq276.sA : List SA := [.v (.one (.str))]
def gq276.fi : FI := FIs gq276.sA (List Int) (fun t => gq276 t.1) gq276.out gq276.ps
def gq276.E : Env := ⟨tt, lkF [(277, gq277.fi)], 87, 0, [], [], []⟩
def gq276.sh1 : SK := ⟨[.v (.one (.str)), .v (.one (.aptr 0)), .v (.one (.aptr 1)), .v (.one (.int .i64))], [.vec 64 (.int .u32), .vec 64 (.int .u32)]⟩
def gq276.sh1e0 : SK := ⟨[.v (.one (.aptr 0)), .v (.one (.aptr 1))], [.vec 64 (.int .u32), .vec 64 (.int .u32)]⟩
def gq276.ko1 : Ex → List CastAt × List Nat
 | .nrm => ([], [])
 | .ret => ([], [])
 | .ext i => cond (Nat.beq i 0) ([], [2, 3]) ([], [])
def gq276.G1 (n : Nat) (R : Type) (t : gq276.sh1.T) (K : Ex → Kp → Option R) : Option R := gq276.l1 (fun y0 y1 => K (.ext 0) (SK.enc gq276.sh1e0 (((), (), ()), (y0, y1, ())))) n t.1.1 t.1.2.2.2.1 t.2.1 t.2.2.1
def gq276.S1 : Sum := ⟨([], [0, 2, 3, 10]), sumF gq276.sh1 (gq276.G1 fuel), gq276.ko1⟩
theorem gq276.ok1 (hE : EOk Tryz.prog (gq276.E)) : SumOk Tryz.prog gq276.E (cB (cR (cL (cR (cR (bodyOf Tryz.f276)))))) (gq276.S1) := by
 have hh : HintOk Tryz.prog gq276.E (cB (cB (cR (cL (cR (cR (bodyOf Tryz.f276))))))) (.a) := HintOk.n1 (Q := True) (by kernel_rfl) trivial
 have h := loopS (kin := ([], [0, 2, 3, 10])) (kout := gq276.ko1) (sh := gq276.sh1) (F := gq276.G1) (ops_ok (hE.gv _)) (by kernel_rfl) hh (fun _ _ _ => rfl) (fun n R t K => by kernel_rfl) fuel
 exact HintOk.n1 (c := (cB (cR (cL (cR (cR (bodyOf Tryz.f276))))))) (h := .s (gq276.S1)) (P := Tryz.prog) (E := gq276.E) (by kernel_rfl) h
theorem gq276.hok (hE : EOk Tryz.prog (gq276.E)) : HintOk Tryz.prog gq276.E (bodyOf Tryz.f276) (.n (.a) (.n (.a) (.n (.n (.a) (.b (.s (gq276.S1)))) (.a)))) := HintOk.n1 (Q := (True) ∧ ((True) ∧ (((True) ∧ (SumOk Tryz.prog gq276.E (cB (cR (cL (cR (cR (bodyOf Tryz.f276)))))) (gq276.S1))) ∧ (True)))) (by kernel_rfl) ⟨trivial, ⟨trivial, ⟨⟨trivial, (gq276.ok1 hE)⟩, trivial⟩⟩⟩
theorem gq276.hE : EOk Tryz.prog (gq276.E) := EOk.of ttOk (⟨gq277.fok, trivial⟩)
theorem gq276.fok : FOk Tryz.prog 276 gq276.fi :=
 fokS (E := gq276.E) (wy := ⟨[[]], [[]], []⟩) (h := (fun gs => .n (.a) (.n (.a) (.n (.n (.a) (.b (.s (gq276.S1)))) (.a))))) (G := fun t g => gq276.F (fun y0 => g y0) t.1) (by kernel_rfl) gq276.hE Tryz.func276 (by kernel_rfl) rfl (Nat.le_refl _) (fun t => HintOk.n1 (by kernel_rfl) (gq276.hok gq276.hE)) (fun t g => gq276.F_nat g (fun y0 => some y0) _) (fun t => by kernel_rfl)
end
end Go.Proofs.YtdhifkdijlghdaaGreatDoorA
