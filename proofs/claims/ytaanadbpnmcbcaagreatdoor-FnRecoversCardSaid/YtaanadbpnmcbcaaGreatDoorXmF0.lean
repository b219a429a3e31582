/-
  Functions of the program, and that the small machine's runs are these. No condition.
  Printed by wip/amp/main.py (a session's own program) out of Lean's print of the program; Lean's kernel checks it.
-/
import Derived.Test.YtaanadbpnmcbcaaGreatDoorXmT
namespace Go.Proofs.YtaanadbpnmcbcaaGreatDoorA
open Go
noncomputable section
set_option linter.unusedVariables false
set_option linter.unusedSimpArgs false
set_option maxRecDepth 100000
variable {R S : Type} (g : R → Option S)
def gq59.F {R : Type} (kk : Bool → Option R) (n_ : Int) (low : Int) (high : Int) : Option R :=
 cond (decide (n_ ≥ low)) (kk (decide (n_ ≤ high))) (kk false)
theorem gq59.N (kk : Bool → Option R) (n_ low high) : gq59.F (fun y0 => (kk y0).bind g) n_ low high = (gq59.F kk n_ low high).bind g := by
 simp only [gq59.F, u6, u9, uc, u7]
def gq59 (n_ : Int) (low : Int) (high : Int) : Option Bool := gq59.F (fun y0 => some y0) n_ low high
def gq59.out : Bool → CRes := fun a => ⟨encL SV.enc [.one (.bool)] (a, ()), [encL SC.enc [] (), encL SC.enc [] (), encL SC.enc [] ()]⟩
def gq59.ps : List PS := [.val [none], .val [none], .val [none]]
def gq59.sA : List SA := [.v (.one (.int .i64)), .v (.one (.int .i64)), .v (.one (.int .i64))]
def gq59.fi : FI := FIs gq59.sA (Bool) (fun t => gq59 t.1 t.2.1 t.2.2.1) gq59.out gq59.ps
def gq59.E : Env := ⟨tt, lkF [], 15, 0, [], []⟩
theorem gq59.hok (hE : EOk Tryz.prog (gq59.E)) : HintOk Tryz.prog gq59.E (u5 Tryz.f59) (.a) := HintOk.n1 (Q := True) (by kernel_rfl) trivial
theorem gq59.hE : EOk Tryz.prog (gq59.E) := EOk.of ttOk (trivial)
theorem gq59.fok : FOk Tryz.prog 59 gq59.fi :=
 fokS (E := gq59.E) (wy := ⟨[[none]], [[], [], []], []⟩) (h := (fun gs => .a)) (G := fun t g => gq59.F (fun y0 => g y0) t.1 t.2.1 t.2.2.1) (by kernel_rfl) gq59.hE Tryz.func59 (by kernel_rfl) rfl (Nat.le_refl _) (fun t => HintOk.n1 (by kernel_rfl) (gq59.hok gq59.hE)) (fun t g => gq59.N g (fun y0 => some y0) _ _ _) (fun t => by kernel_rfl)
def gq17.F {R : Type} (kk : Int → List (El u4) → Int → Option R) (room : Int) : Option R :=
 (gq59 room (0 : Int) (3000 : Int)).bind fun r =>
 cond (!r) (kk (0 : Int) [] (4 : Int)) (kk room ([] : List (El u4)) (0 : Int))
theorem gq17.N (kk : Int → List (El u4) → Int → Option R) (room) : gq17.F (fun y0 y1 y2 => (kk y0 y1 y2).bind g) room = (gq17.F kk room).bind g := by
 simp only [gq17.F, u6, u9, uc, u7]
def gq17 (room : Int) : Option (Int × List (El u4) × Int) := gq17.F (fun y0 y1 y2 => some (y0, y1, y2)) room
def gq17.out : (Int × List (El u4) × Int) → CRes := fun a => ⟨encL SV.enc [.agg [.int .i64, .own [] u4 true], .one (.int .i64)] ((a.1, a.2.1, ()), a.2.2, ()), [encL SC.enc [] ()]⟩
def gq17.ps : List PS := [.val [none]]
def gq17.sA : List SA := [.v (.one (.int .i64))]
def gq17.fi : FI := FIs gq17.sA (Int × List (El u4) × Int) (fun t => gq17 t.1) gq17.out gq17.ps
def gq17.E : Env := ⟨tt, lkF [(59, gq59.fi)], 11, 0, [], []⟩
theorem gq17.hok (hE : EOk Tryz.prog (gq17.E)) : HintOk Tryz.prog gq17.E (u5 Tryz.f17) (.a) := HintOk.n1 (Q := True) (by kernel_rfl) trivial
theorem gq17.hE : EOk Tryz.prog (gq17.E) := EOk.of ttOk (⟨gq59.fok, trivial⟩)
theorem gq17.fok : FOk Tryz.prog 17 gq17.fi :=
 fokS (E := gq17.E) (wy := ⟨[[none, some (u4, true)], [none]], [[]], []⟩) (h := (fun gs => .a)) (G := fun t g => gq17.F (fun y0 y1 y2 => g (y0, y1, y2)) t.1) (by kernel_rfl) gq17.hE Tryz.func17 (by kernel_rfl) rfl (Nat.le_refl _) (fun t => HintOk.n1 (by kernel_rfl) (gq17.hok gq17.hE)) (fun t g => gq17.N g (fun y0 y1 y2 => some (y0, y1, y2)) _) (fun t => by kernel_rfl)
def l_at.F {R : Type} (kk : Int → Option R) (more : List Int) (i : Int) (n_ : Int) : Option R :=
 cond (decide (n_ ≤ (1 : Int))) (kk (0 : Int)) (
  cond ((List.length more : Int) == (0 : Int)) (
   grd (gNz n_) <|
   kk (Int.tmod (IntKind.wrap .i64 (i * (7 : Int))) n_)) (
   grd (gNz (List.length more : Int)) <|
   grd (gIx (Int.tmod i (List.length more : Int)) (List.length more)) <|
   grd (gNz (List.length more : Int)) <|
   grd (gIx (Int.tmod (IntKind.wrap .i64 (i + (1 : Int))) (List.length more : Int)) (List.length more)) <|
   grd (gNz (List.length more : Int)) <|
   grd (gNz n_) <|
   kk (Int.tmod (IntKind.wrap .i64 ((IntKind.wrap .i64 ((IntKind.wrap .i64 ((IntKind.wrap .i64 (rdE (.int .u8 : Kd) more (Int.toNat (Int.tmod i (List.length more : Int))))) * (31 : Int))) + (IntKind.wrap .i64 (rdE (.int .u8 : Kd) more (Int.toNat (Int.tmod (IntKind.wrap .i64 (i + (1 : Int))) (List.length more : Int))))))) + (IntKind.wrap .i64 (Int.tdiv i (List.length more : Int))))) n_)))
theorem l_at.N (kk : Int → Option R) (more i n_) : l_at.F (fun y0 => (kk y0).bind g) more i n_ = (l_at.F kk more i n_).bind g := by
 simp only [l_at.F, u6, u9, uc, u7]
def l_at (more : List Int) (i : Int) (n_ : Int) : Option Int := l_at.F (fun y0 => some y0) more i n_
def l_at.out : Int → CRes := fun a => ⟨encL SV.enc [.one (.int .i64)] (a, ()), [encL SC.enc [] (), encL SC.enc [] (), encL SC.enc [] ()]⟩
def l_at.ps : List PS := [.val [some ((.int .u8), false)], .val [none], .val [none]]
def l_at.sA : List SA := [.v (.one (.slv [] (.int .u8))), .v (.one (.int .i64)), .v (.one (.int .i64))]
def l_at.fi : FI := FIs l_at.sA (Int) (fun t => l_at t.1 t.2.1 t.2.2.1) l_at.out l_at.ps
def l_at.E : Env := ⟨tt, lkF [], 42, 0, [], []⟩
theorem l_at.hok (hE : EOk Tryz.prog (l_at.E)) : HintOk Tryz.prog l_at.E (u5 Tryz.f18) (.a) := HintOk.n1 (Q := True) (by kernel_rfl) trivial
theorem l_at.hE : EOk Tryz.prog (l_at.E) := EOk.of ttOk (trivial)
theorem l_at.fok : FOk Tryz.prog 18 l_at.fi :=
 fokS (E := l_at.E) (wy := ⟨[[none]], [[], [], []], []⟩) (h := (fun gs => .a)) (G := fun t g => l_at.F (fun y0 => g y0) t.1 t.2.1 t.2.2.1) (by kernel_rfl) l_at.hE Tryz.func18 (by kernel_rfl) rfl (Nat.le_refl _) (fun t => HintOk.n1 (by kernel_rfl) (l_at.hok l_at.hE)) (fun t g => l_at.N g (fun y0 => some y0) _ _ _) (fun t => by kernel_rfl)
def gq67.F {R : Type} (kk : Bool → Option R) (n_ : Int) (low : Int) (high : Int) : Option R :=
 cond (decide (n_ ≥ low)) (kk (decide (n_ ≤ high))) (kk false)
theorem gq67.N (kk : Bool → Option R) (n_ low high) : gq67.F (fun y0 => (kk y0).bind g) n_ low high = (gq67.F kk n_ low high).bind g := by
 simp only [gq67.F, u6, u9, uc, u7]
def gq67 (n_ : Int) (low : Int) (high : Int) : Option Bool := gq67.F (fun y0 => some y0) n_ low high
def gq67.out : Bool → CRes := fun a => ⟨encL SV.enc [.one (.bool)] (a, ()), [encL SC.enc [] (), encL SC.enc [] (), encL SC.enc [] ()]⟩
def gq67.ps : List PS := [.val [none], .val [none], .val [none]]
def gq67.sA : List SA := [.v (.one (.int .i64)), .v (.one (.int .i64)), .v (.one (.int .i64))]
def gq67.fi : FI := FIs gq67.sA (Bool) (fun t => gq67 t.1 t.2.1 t.2.2.1) gq67.out gq67.ps
def gq67.E : Env := ⟨tt, lkF [], 15, 0, [], []⟩
theorem gq67.hok (hE : EOk Tryz.prog (gq67.E)) : HintOk Tryz.prog gq67.E (u5 Tryz.f67) (.a) := HintOk.n1 (Q := True) (by kernel_rfl) trivial
theorem gq67.hE : EOk Tryz.prog (gq67.E) := EOk.of ttOk (trivial)
theorem gq67.fok : FOk Tryz.prog 67 gq67.fi :=
 fokS (E := gq67.E) (wy := ⟨[[none]], [[], [], []], []⟩) (h := (fun gs => .a)) (G := fun t g => gq67.F (fun y0 => g y0) t.1 t.2.1 t.2.2.1) (by kernel_rfl) gq67.hE Tryz.func67 (by kernel_rfl) rfl (Nat.le_refl _) (fun t => HintOk.n1 (by kernel_rfl) (gq67.hok gq67.hE)) (fun t g => gq67.N g (fun y0 => some y0) _ _ _) (fun t => by kernel_rfl)
def gq113.l1 {R : Type} (kke0 : Int → Option R) : Nat → Int → List (El u4) → Int → Int → Option R
 | 0, _, _, _, _ => none
 | n + 1, sum, l, i, i1 =>
  cond (decide (i1 < i)) (
   grd (gIx i1 (List.length l)) <|
   gq113.l1 kke0 n (IntKind.wrap .i64 (sum + (ByteArray.size (rdE u4 l (Int.toNat i1)).2.1 : Int))) l i (IntKind.wrap .i64 (i1 + (1 : Int)))) (kke0 sum)
theorem gq113.l1_nat (kke0 : Int → Option R) : ∀ n sum l i i1, gq113.l1 (fun y0 => (kke0 y0).bind g) n sum l i i1 = (gq113.l1 kke0 n sum l i i1).bind g := by
 intro n
 induction n with
 | zero => intros; rfl
 | succ n ih => intros; simp only [gq113.l1, u6, u9, uc, u7, ih]
def gq113.F {R : Type} (kk : Int → Option R) (w94 : Int) (w93 : List (El u4)) : Option R :=
 gq113.l1 (fun sum => kk sum) fuel (0 : Int) w93 (List.length w93 : Int) (0 : Int)
theorem gq113.N (kk : Int → Option R) (w94 w93) : gq113.F (fun y0 => (kk y0).bind g) w94 w93 = (gq113.F kk w94 w93).bind g := by
 simp only [gq113.F, u6, u9, uc, u7, ← gq113.l1_nat]
def gq113 (w94 : Int) (w93 : List (El u4)) : Option Int := gq113.F (fun y0 => some y0) w94 w93
def gq113.out : Int → CRes := fun a => ⟨encL SV.enc [.one (.int .i64)] (a, ()), [encL SC.enc [] ()]⟩
def gq113.ps : List PS := [.val [none, some (u4, false)]]
def gq113.sA : List SA := [.v (.agg [.int .i64, .slv [] u4])]
def gq113.fi : FI := FIs gq113.sA (Int) (fun t => gq113 t.1.1 t.1.2.1) gq113.out gq113.ps
def gq113.E : Env := ⟨tt, lkF [], 20, 0, [], []⟩
def gq113.sh1 : SK := ⟨[.v (.one (.int .i64)), .v (.one (.slv [1] u4)), .v (.one (.int .i64)), .v (.one (.int .i64))], []⟩
def gq113.sh1e0 : SK := ⟨[.v (.one (.int .i64))], []⟩
def gq113.ko1 : Ex → List u16 × List Nat
 | .nrm => ([], [])
 | .ret => ([], [])
 | .ext i => cond (Nat.beq i 0) ([], [3]) ([], [])
def gq113.G1 (n : Nat) (R : Type) (t : gq113.sh1.T) (K : Ex → Kp → Option R) : Option R := gq113.l1 (fun y0 => K (.ext 0) (SK.enc gq113.sh1e0 ((y0, ()), ()))) n t.1.1 t.1.2.1 t.1.2.2.1 t.1.2.2.2.1
def gq113.S1 : Sum := ⟨([], [3, 7, 8, 9]), sumF gq113.sh1 (gq113.G1 fuel), gq113.ko1⟩
theorem gq113.ok1 (hE : EOk Tryz.prog (gq113.E)) : u15 Tryz.prog gq113.E (cB (cR (cL (cR (cR (u5 Tryz.f113)))))) (gq113.S1) := by
 have hh : HintOk Tryz.prog gq113.E (cB (cB (cR (cL (cR (cR (u5 Tryz.f113))))))) (.a) := HintOk.n1 (Q := True) (by kernel_rfl) trivial
 have h := u2a (kin := ([], [3, 7, 8, 9])) (kout := gq113.ko1) (sh := gq113.sh1) (F := gq113.G1) (u1a (hE.gv _)) (by kernel_rfl) hh (fun _ _ _ => rfl) (fun n R t K => by kernel_rfl) fuel
 exact HintOk.n1 (c := (cB (cR (cL (cR (cR (u5 Tryz.f113))))))) (h := .s (gq113.S1)) (P := Tryz.prog) (E := gq113.E) (by kernel_rfl) h
theorem gq113.hok (hE : EOk Tryz.prog (gq113.E)) : HintOk Tryz.prog gq113.E (u5 Tryz.f113) (.n (.a) (.n (.a) (.n (.n (.a) (.b (.s (gq113.S1)))) (.a)))) := HintOk.n1 (Q := (True) ∧ ((True) ∧ (((True) ∧ (u15 Tryz.prog gq113.E (cB (cR (cL (cR (cR (u5 Tryz.f113)))))) (gq113.S1))) ∧ (True)))) (by kernel_rfl) ⟨trivial, ⟨trivial, ⟨⟨trivial, (gq113.ok1 hE)⟩, trivial⟩⟩⟩
theorem gq113.hE : EOk Tryz.prog (gq113.E) := EOk.of ttOk (trivial)
theorem gq113.fok : FOk Tryz.prog 113 gq113.fi :=
 fokS (E := gq113.E) (wy := ⟨[[none]], [[]], []⟩) (h := (fun gs => .n (.a) (.n (.a) (.n (.n (.a) (.b (.s (gq113.S1)))) (.a))))) (G := fun t g => gq113.F (fun y0 => g y0) t.1.1 t.1.2.1) (by kernel_rfl) gq113.hE Tryz.func113 (by kernel_rfl) rfl (Nat.le_refl _) (fun t => HintOk.n1 (by kernel_rfl) (gq113.hok gq113.hE)) (fun t g => gq113.N g (fun y0 => some y0) _ _) (fun t => by kernel_rfl)
def gq114.j1 {R : Type} (kkn : ByteArray → Int → Int → Bool → Int → Int → Option R) (t_ : ByteArray) (i : Int) (b : Int) (i1 : Int) (i2 : Int) : Option R :=
 cond (decide (b ≥ (97 : Int))) (
  cond (decide (b ≤ (122 : Int))) (kkn t_ i b true i1 i2) (
   cond (decide (b ≥ (65 : Int))) (cond (decide (b ≤ (90 : Int))) (kkn t_ i b true i1 i2) (kkn t_ i b (b == (95 : Int)) i1 i2)) (kkn t_ i b (b == (95 : Int)) i1 i2))) (
  cond (decide (b ≥ (65 : Int))) (cond (decide (b ≤ (90 : Int))) (kkn t_ i b true i1 i2) (kkn t_ i b (b == (95 : Int)) i1 i2)) (kkn t_ i b (b == (95 : Int)) i1 i2))
theorem gq114.j1_nat (kkn : ByteArray → Int → Int → Bool → Int → Int → Option R) (t_ i b i1 i2) : gq114.j1 (fun y0 y1 y2 y3 y4 y5 => (kkn y0 y1 y2 y3 y4 y5).bind g) t_ i b i1 i2 = (gq114.j1 kkn t_ i b i1 i2).bind g := by
 simp only [gq114.j1, u6, u9, uc, u7]
def gq114.l2 {R : Type} (kke0 : ByteArray → Option R) (kkr : Bool → Option R) : Nat → ByteArray → Int → Int → Option R
 | 0, _, _, _ => none
 | n + 1, t_, i, i1 =>
  cond (decide (i1 < i)) (
   grd (gIx i1 (ByteArray.size t_)) <|
   gq114.j1 (fun t_1 i2 b letter i3 i4 =>
    cond (!letter) (
     cond (i2 == (0 : Int)) (kkr false) (
      cond (decide (b < (48 : Int))) (kkr false) (
       cond (decide (b > (57 : Int))) (kkr false) (gq114.l2 kke0 kkr n t_1 i3 (IntKind.wrap .i64 (i4 + (1 : Int))))))) (gq114.l2 kke0 kkr n t_1 i3 (IntKind.wrap .i64 (i4 + (1 : Int))))) t_ i1 (u21 t_ i1) i i1) (kke0 t_)
theorem gq114.l2_nat (kke0 : ByteArray → Option R) (kkr : Bool → Option R) : ∀ n t_ i i1, gq114.l2 (fun y0 => (kke0 y0).bind g) (fun y0 => (kkr y0).bind g) n t_ i i1 = (gq114.l2 kke0 kkr n t_ i i1).bind g := by
 intro n
 induction n with
 | zero => intros; rfl
 | succ n ih => intros; simp only [gq114.l2, u6, u9, uc, u7, ← gq114.j1_nat, ih]
def gq114.F {R : Type} (kk : Bool → Option R) (t_ : ByteArray) : Option R :=
 gq114.l2 (fun t_1 =>
  (gq67 (ByteArray.size t_1 : Int) (1 : Int) (40 : Int)).bind fun r =>
  kk r) (fun b => kk b) fuel t_ (ByteArray.size t_ : Int) (0 : Int)
theorem gq114.N (kk : Bool → Option R) (t_) : gq114.F (fun y0 => (kk y0).bind g) t_ = (gq114.F kk t_).bind g := by
 simp only [gq114.F, u6, u9, uc, u7, ← gq114.l2_nat]
def gq114 (t_ : ByteArray) : Option Bool := gq114.F (fun y0 => some y0) t_
def gq114.out : Bool → CRes := fun a => ⟨encL SV.enc [.one (.bool)] (a, ()), [encL SC.enc [] ()]⟩
def gq114.ps : List PS := [.val [none]]
def gq114.sA : List SA := [.v (.one (.str))]
def gq114.fi : FI := FIs gq114.sA (Bool) (fun t => gq114 t.1) gq114.out gq114.ps
def gq114.E : Env := ⟨tt, lkF [(67, gq67.fi)], 50, 0, [], []⟩
def gq114.sh1 : SK := ⟨[.v (.one (.str)), .v (.one (.int .i64)), .v (.one (.int .u8)), .v (.one (.int .i64)), .v (.one (.int .i64))], []⟩
def gq114.sh1n : SK := ⟨[.v (.one (.str)), .v (.one (.int .i64)), .v (.one (.int .u8)), .v (.one (.bool)), .v (.one (.int .i64)), .v (.one (.int .i64))], []⟩
def gq114.ko1 : Ex → List u16 × List Nat
 | .nrm => ([], [0, 3, 4, 5, 7, 8])
 | .ret => ([], [])
 | .ext i => ([], [])
def gq114.G1 (R : Type) (t : gq114.sh1.T) (K : Ex → Kp → Option R) : Option R := gq114.j1 (fun y0 y1 y2 y3 y4 y5 => K .nrm (SK.enc gq114.sh1n ((y0, y1, y2, y3, y4, y5, ()), ()))) t.1.1 t.1.2.1 t.1.2.2.1 t.1.2.2.2.1 t.1.2.2.2.2.1
def gq114.S1 : Sum := ⟨([], [0, 3, 4, 7, 8]), sumF gq114.sh1 (gq114.G1), gq114.ko1⟩
theorem gq114.ok1 (hE : EOk Tryz.prog (gq114.E)) : u15 Tryz.prog gq114.E (cL (cR (cR (cB (cL (cR (cR (cB (cB (cR (cL (cR (u5 Tryz.f114))))))))))))) (gq114.S1) := by
 have hh : HintOk Tryz.prog gq114.E (cL (cR (cR (cB (cL (cR (cR (cB (cB (cR (cL (cR (u5 Tryz.f114))))))))))))) (.a) := HintOk.n1 (Q := True) (by kernel_rfl) trivial
 exact sumS (kin := ([], [0, 3, 4, 7, 8])) (kout := gq114.ko1) (sh := gq114.sh1) (F := gq114.G1) (u1a (hE.gv _)) (by kernel_rfl) hh (fun R t K => by kernel_rfl)
def gq114.sh2 : SK := ⟨[.v (.one (.str)), .v (.one (.int .i64)), .v (.one (.int .i64))], []⟩
def gq114.sh2e0 : SK := ⟨[.v (.one (.str))], []⟩
def gq114.sh2r : SK := ⟨[.v (.one (.bool))], []⟩
def gq114.ko2 : Ex → List u16 × List Nat
 | .nrm => ([], [])
 | .ret => ([], [2])
 | .ext i => cond (Nat.beq i 0) ([], [0]) ([], [])
def gq114.G2 (n : Nat) (R : Type) (t : gq114.sh2.T) (K : Ex → Kp → Option R) : Option R := gq114.l2 (fun y0 => K (.ext 0) (SK.enc gq114.sh2e0 ((y0, ()), ()))) (fun y0 => K .ret (SK.enc gq114.sh2r ((y0, ()), ()))) n t.1.1 t.1.2.1 t.1.2.2.1
def gq114.S2 : Sum := ⟨([], [0, 7, 8]), sumF gq114.sh2 (gq114.G2 fuel), gq114.ko2⟩
theorem gq114.ok2 (hE : EOk Tryz.prog (gq114.E)) : u15 Tryz.prog gq114.E (cB (cR (cL (cR (u5 Tryz.f114))))) (gq114.S2) := by
 have hh : HintOk Tryz.prog gq114.E (cB (cB (cR (cL (cR (u5 Tryz.f114)))))) (.n (.a) (.n (.a) (.n (.b (.n (.a) (.n (.a) (.n (.s (gq114.S1)) (.a))))) (.a)))) := HintOk.n1 (Q := (True) ∧ ((True) ∧ (((True) ∧ ((True) ∧ ((u15 Tryz.prog gq114.E (cL (cR (cR (cB (cL (cR (cR (cB (cB (cR (cL (cR (u5 Tryz.f114))))))))))))) (gq114.S1)) ∧ (True)))) ∧ (True)))) (by kernel_rfl) ⟨trivial, ⟨trivial, ⟨⟨trivial, ⟨trivial, ⟨(gq114.ok1 hE), trivial⟩⟩⟩, trivial⟩⟩⟩
 have h := u2a (kin := ([], [0, 7, 8])) (kout := gq114.ko2) (sh := gq114.sh2) (F := gq114.G2) (u1a (hE.gv _)) (by kernel_rfl) hh (fun _ _ _ => rfl) (fun n R t K => by kernel_rfl) fuel
 exact HintOk.n1 (c := (cB (cR (cL (cR (u5 Tryz.f114)))))) (h := .s (gq114.S2)) (P := Tryz.prog) (E := gq114.E) (by kernel_rfl) h
theorem gq114.hok (hE : EOk Tryz.prog (gq114.E)) : HintOk Tryz.prog gq114.E (u5 Tryz.f114) (.n (.a) (.n (.n (.a) (.b (.s (gq114.S2)))) (.a))) := HintOk.n1 (Q := (True) ∧ (((True) ∧ (u15 Tryz.prog gq114.E (cB (cR (cL (cR (u5 Tryz.f114))))) (gq114.S2))) ∧ (True))) (by kernel_rfl) ⟨trivial, ⟨⟨trivial, (gq114.ok2 hE)⟩, trivial⟩⟩
theorem gq114.hE : EOk Tryz.prog (gq114.E) := EOk.of ttOk (⟨gq67.fok, trivial⟩)
theorem gq114.fok : FOk Tryz.prog 114 gq114.fi :=
 fokS (E := gq114.E) (wy := ⟨[[none]], [[]], []⟩) (h := (fun gs => .n (.a) (.n (.n (.a) (.b (.s (gq114.S2)))) (.a)))) (G := fun t g => gq114.F (fun y0 => g y0) t.1) (by kernel_rfl) gq114.hE Tryz.func114 (by kernel_rfl) rfl (Nat.le_refl _) (fun t => HintOk.n1 (by kernel_rfl) (gq114.hok gq114.hE)) (fun t g => gq114.N g (fun y0 => some y0) _) (fun t => by kernel_rfl)
def gq65.l1 {R : Type} (kke0 : Option R) (kkr : Bool → Option R) : Nat → List (El u4) → Int → Int → Int → List (El u4) → Option R
 | 0, _, _, _, _, _ => none
 | n + 1, l, i, i1, d, d1 =>
  cond (decide (i1 < i)) (
   grd (gIx i1 (List.length l)) <|
   (gq114 ((rdE u4 l (Int.toNat i1)).1)).bind fun r =>
   cond (!r) (kkr false) (
    cond (decide (i1 > (0 : Int))) (
     grd (gIx (IntKind.wrap .i64 (i1 - (1 : Int))) (List.length d1)) <|
     cond (!(sLt (rdE u4 d1 (Int.toNat (IntKind.wrap .i64 (i1 - (1 : Int))))).1 (rdE u4 l (Int.toNat i1)).1)) (kkr false) (
      (gq67 ((rdE u4 l (Int.toNat i1)).2.2) (0 : Int) (ByteArray.size (rdE u4 l (Int.toNat i1)).2.1 : Int)).bind fun r1 =>
      cond (!r1) (kkr false) (gq65.l1 kke0 kkr n l i (IntKind.wrap .i64 (i1 + (1 : Int))) d d1))) (
     (gq67 ((rdE u4 l (Int.toNat i1)).2.2) (0 : Int) (ByteArray.size (rdE u4 l (Int.toNat i1)).2.1 : Int)).bind fun r2 =>
     cond (!r2) (kkr false) (gq65.l1 kke0 kkr n l i (IntKind.wrap .i64 (i1 + (1 : Int))) d d1)))) (kke0)
theorem gq65.l1_nat (kke0 : Option R) (kkr : Bool → Option R) : ∀ n l i i1 d d1, gq65.l1 (kke0.bind g) (fun y0 => (kkr y0).bind g) n l i i1 d d1 = (gq65.l1 kke0 kkr n l i i1 d d1).bind g := by
 intro n
 induction n with
 | zero => intros; rfl
 | succ n ih => intros; simp only [gq65.l1, u6, u9, uc, u7, ih]
def gq65.F {R : Type} (kk : Bool → Option R) (w94 : Int) (w93 : List (El u4)) : Option R :=
 (gq67 w94 (0 : Int) (3000 : Int)).bind fun r =>
 cond (!r) (kk false) (
  cond (decide ((List.length w93 : Int) > (8 : Int))) (kk false) (
   (gq113 w94 w93).bind fun r1 =>
   cond (decide (r1 > w94)) (kk false) (
    gq65.l1 (kk true) (fun b => kk b) fuel w93 (List.length w93 : Int) (0 : Int) w94 w93)))
theorem gq65.N (kk : Bool → Option R) (w94 w93) : gq65.F (fun y0 => (kk y0).bind g) w94 w93 = (gq65.F kk w94 w93).bind g := by
 simp only [gq65.F, u6, u9, uc, u7, ← gq65.l1_nat]
def gq65 (w94 : Int) (w93 : List (El u4)) : Option Bool := gq65.F (fun y0 => some y0) w94 w93
def gq65.out : Bool → CRes := fun a => ⟨encL SV.enc [.one (.bool)] (a, ()), [encL SC.enc [] ()]⟩
def gq65.ps : List PS := [.val [none, some (u4, false)]]
def gq65.sA : List SA := [.v (.agg [.int .i64, .slv [] u4])]
def gq65.fi : FI := FIs gq65.sA (Bool) (fun t => gq65 t.1.1 t.1.2.1) gq65.out gq65.ps
def gq65.E : Env := ⟨tt, lkF [(67, gq67.fi), (113, gq113.fi), (114, gq114.fi)], 60, 0, [], []⟩
def gq65.sh1 : SK := ⟨[.v (.one (.bptr 0 0)), .v (.one (.slv [1] u4)), .v (.one (.int .i64)), .v (.one (.int .i64))], [.box [.int .i64, .slv [1] u4]]⟩
def gq65.sh1e0 : SK := ⟨[], []⟩
def gq65.sh1r : SK := ⟨[.v (.one (.bool))], []⟩
def gq65.ko1 : Ex → List u16 × List Nat
 | .nrm => ([], [])
 | .ret => ([], [2])
 | .ext i => cond (Nat.beq i 0) ([], []) ([], [])
def gq65.G1 (n : Nat) (R : Type) (t : gq65.sh1.T) (K : Ex → Kp → Option R) : Option R := gq65.l1 (K (.ext 0) (SK.enc gq65.sh1e0 ((), ()))) (fun y0 => K .ret (SK.enc gq65.sh1r ((y0, ()), ()))) n t.1.2.1 t.1.2.2.1 t.1.2.2.2.1 t.2.1.1 t.2.1.2.1
def gq65.S1 : Sum := ⟨([], [1, 23, 24, 25]), sumF gq65.sh1 (gq65.G1 fuel), gq65.ko1⟩
theorem gq65.ok1 (hE : EOk Tryz.prog (gq65.E)) : u15 Tryz.prog gq65.E (cB (cR (cL (cR (cR (u5 Tryz.f65)))))) (gq65.S1) := by
 have hh : HintOk Tryz.prog gq65.E (cB (cB (cR (cL (cR (cR (u5 Tryz.f65))))))) (.a) := HintOk.n1 (Q := True) (by kernel_rfl) trivial
 have h := u2a (kin := ([], [1, 23, 24, 25])) (kout := gq65.ko1) (sh := gq65.sh1) (F := gq65.G1) (u1a (hE.gv _)) (by kernel_rfl) hh (fun _ _ _ => rfl) (fun n R t K => by kernel_rfl) fuel
 exact HintOk.n1 (c := (cB (cR (cL (cR (cR (u5 Tryz.f65))))))) (h := .s (gq65.S1)) (P := Tryz.prog) (E := gq65.E) (by kernel_rfl) h
theorem gq65.hok (hE : EOk Tryz.prog (gq65.E)) : HintOk Tryz.prog gq65.E (u5 Tryz.f65) (.n (.a) (.n (.a) (.n (.n (.a) (.b (.s (gq65.S1)))) (.a)))) := HintOk.n1 (Q := (True) ∧ ((True) ∧ (((True) ∧ (u15 Tryz.prog gq65.E (cB (cR (cL (cR (cR (u5 Tryz.f65)))))) (gq65.S1))) ∧ (True)))) (by kernel_rfl) ⟨trivial, ⟨trivial, ⟨⟨trivial, (gq65.ok1 hE)⟩, trivial⟩⟩⟩
theorem gq65.hE : EOk Tryz.prog (gq65.E) := EOk.of ttOk (⟨gq67.fok, ⟨gq113.fok, ⟨gq114.fok, trivial⟩⟩⟩)
theorem gq65.fok : FOk Tryz.prog 65 gq65.fi :=
 fokS (E := gq65.E) (wy := ⟨[[none]], [[]], []⟩) (h := (fun gs => .n (.a) (.n (.a) (.n (.n (.a) (.b (.s (gq65.S1)))) (.a))))) (G := fun t g => gq65.F (fun y0 => g y0) t.1.1 t.1.2.1) (by kernel_rfl) gq65.hE Tryz.func65 (by kernel_rfl) rfl (Nat.le_refl _) (fun t => HintOk.n1 (by kernel_rfl) (gq65.hok gq65.hE)) (fun t g => gq65.N g (fun y0 => some y0) _ _) (fun t => by kernel_rfl)
def gq154.l1 {R : Type} (f : ((ByteArray × Unit) → Option (Bool × Unit))) (kke0 : Option R) (kkr : Int → Option R) : Nat → List ByteArray → Int → Int → Option R
 | 0, _, _, _ => none
 | n + 1, s, i, i1 =>
  cond (decide (i1 < i)) (
   grd (gIx i1 (List.length s)) <|
   (f (rdE (.str : Kd) s (Int.toNat i1), ())).bind fun r =>
   cond (r.1) (kkr i1) (gq154.l1 f kke0 kkr n s i (IntKind.wrap .i64 (i1 + (1 : Int))))) (kke0)
theorem gq154.l1_nat (f : ((ByteArray × Unit) → Option (Bool × Unit))) (kke0 : Option R) (kkr : Int → Option R) : ∀ n s i i1, gq154.l1 f (kke0.bind g) (fun y0 => (kkr y0).bind g) n s i i1 = (gq154.l1 f kke0 kkr n s i i1).bind g := by
 intro n
 induction n with
 | zero => intros; rfl
 | succ n ih => intros; simp only [gq154.l1, u6, u9, uc, u7, ih]
def gq154.F {R : Type} (kk : Int → Option R) (s : List ByteArray) (f : ((ByteArray × Unit) → Option (Bool × Unit))) : Option R :=
 gq154.l1 f (kk (-1 : Int)) (fun i => kk i) fuel s (List.length s : Int) (0 : Int)
theorem gq154.N (kk : Int → Option R) (s f) : gq154.F (fun y0 => (kk y0).bind g) s f = (gq154.F kk s f).bind g := by
 simp only [gq154.F, u6, u9, uc, u7, ← gq154.l1_nat]
def gq154 (s : List ByteArray) (f : ((ByteArray × Unit) → Option (Bool × Unit))) : Option Int := gq154.F (fun y0 => some y0) s f
def gq154.out : Int → CRes := fun a => ⟨encL SV.enc [.one (.int .i64)] (a, ()), [encL SC.enc [] (), encL SC.enc [] ()]⟩
def gq154.ps : List PS := [.val [some (.str, false)], .fn [.one (.bool)]]
def gq154.sA : List SA := [.v (.one (.slv [] .str)), .fn [.one (.str)] [.one (.bool)]]
def gq154.fi : FI := FIs gq154.sA (Int) (fun t => gq154 t.1 t.2.1) gq154.out gq154.ps
def gq154.E : Env := ⟨tt, lkF [], 19, 0, [], []⟩
def gq154.sh1 : SK := ⟨[.v (.one (.slv [1] .str)), .v (.one (.fv 0)), .v (.one (.int .i64)), .v (.one (.int .i64))], []⟩
def gq154.sh1e0 : SK := ⟨[], []⟩
def gq154.sh1r : SK := ⟨[.v (.one (.int .i64))], []⟩
def gq154.ko1 : Ex → List u16 × List Nat
 | .nrm => ([], [])
 | .ret => ([], [4])
 | .ext i => cond (Nat.beq i 0) ([], []) ([], [])
def gq154.G1 (f : ((ByteArray × Unit) → Option (Bool × Unit))) (n : Nat) (R : Type) (t : gq154.sh1.T) (K : Ex → Kp → Option R) : Option R := gq154.l1 f (K (.ext 0) (SK.enc gq154.sh1e0 ((), ()))) (fun y0 => K .ret (SK.enc gq154.sh1r ((y0, ()), ()))) n t.1.1 t.1.2.2.1 t.1.2.2.2.1
def gq154.S1 (f : ((ByteArray × Unit) → Option (Bool × Unit))) : Sum := ⟨([], [0, 1, 7, 8]), sumF gq154.sh1 (gq154.G1 f fuel), gq154.ko1⟩
theorem gq154.ok1 (f : ((ByteArray × Unit) → Option (Bool × Unit))) (hE : EOk Tryz.prog (gq154.E)) : u15 Tryz.prog { (gq154.E) with gv := [fnE [.one (.str)] [.one (.bool)] f] } (cB (cR (cL (cR (u5 Tryz.f154))))) (gq154.S1 f) := by
 have hh : HintOk Tryz.prog { (gq154.E) with gv := [fnE [.one (.str)] [.one (.bool)] f] } (cB (cB (cR (cL (cR (u5 Tryz.f154)))))) (.a) := HintOk.n1 (Q := True) (by kernel_rfl) trivial
 have h := u2a (kin := ([], [0, 1, 7, 8])) (kout := gq154.ko1) (sh := gq154.sh1) (F := gq154.G1 f) (u1a (hE.gv _)) (by kernel_rfl) hh (fun _ _ _ => rfl) (fun n R t K => by kernel_rfl) fuel
 exact HintOk.n1 (c := (cB (cR (cL (cR (u5 Tryz.f154)))))) (h := .s (gq154.S1 f)) (P := Tryz.prog) (E := { (gq154.E) with gv := [fnE [.one (.str)] [.one (.bool)] f] }) (by kernel_rfl) h
theorem gq154.hok (f : ((ByteArray × Unit) → Option (Bool × Unit))) (hE : EOk Tryz.prog (gq154.E)) : HintOk Tryz.prog { (gq154.E) with gv := [fnE [.one (.str)] [.one (.bool)] f] } (u5 Tryz.f154) (.n (.a) (.n (.n (.a) (.b (.s (gq154.S1 f)))) (.a))) := HintOk.n1 (Q := (True) ∧ (((True) ∧ (u15 Tryz.prog { (gq154.E) with gv := [fnE [.one (.str)] [.one (.bool)] f] } (cB (cR (cL (cR (u5 Tryz.f154))))) (gq154.S1 f))) ∧ (True))) (by kernel_rfl) ⟨trivial, ⟨⟨trivial, (gq154.ok1 f hE)⟩, trivial⟩⟩
theorem gq154.hE : EOk Tryz.prog (gq154.E) := EOk.of ttOk (trivial)
theorem gq154.fok : FOk Tryz.prog 154 gq154.fi :=
 fokS (E := gq154.E) (wy := ⟨[[none]], [[], []], []⟩) (h := (fun gs => let f := fnP [.one (.str)] [.one (.bool)] (gN 0 gs); .n (.a) (.n (.n (.a) (.b (.s (gq154.S1 f)))) (.a)))) (G := fun t g => gq154.F (fun y0 => g y0) t.1 t.2.1) (by kernel_rfl) gq154.hE Tryz.func154 (by kernel_rfl) rfl (Nat.le_refl _) (fun t => HintOk.n1 (by kernel_rfl) (gq154.hok t.2.1 gq154.hE)) (fun t g => gq154.N g (fun y0 => some y0) _ _) (fun t => by kernel_rfl)
def gq117.F {R : Type} (kk : Bool → Option R) (s : List ByteArray) (f : ((ByteArray × Unit) → Option (Bool × Unit))) : Option R :=
 (gq154 s f).bind fun r =>
 kk (decide (r ≥ (0 : Int)))
theorem gq117.N (kk : Bool → Option R) (s f) : gq117.F (fun y0 => (kk y0).bind g) s f = (gq117.F kk s f).bind g := by
 simp only [gq117.F, u6, u9, uc, u7]
def gq117 (s : List ByteArray) (f : ((ByteArray × Unit) → Option (Bool × Unit))) : Option Bool := gq117.F (fun y0 => some y0) s f
def gq117.out : Bool → CRes := fun a => ⟨encL SV.enc [.one (.bool)] (a, ()), [encL SC.enc [] (), encL SC.enc [] ()]⟩
def gq117.ps : List PS := [.val [some (.str, false)], .fn [.one (.bool)]]
def gq117.sA : List SA := [.v (.one (.slv [] .str)), .fn [.one (.str)] [.one (.bool)]]
def gq117.fi : FI := FIs gq117.sA (Bool) (fun t => gq117 t.1 t.2.1) gq117.out gq117.ps
def gq117.E : Env := ⟨tt, lkF [(154, gq154.fi)], 9, 0, [], []⟩
theorem gq117.hok (f : ((ByteArray × Unit) → Option (Bool × Unit))) (hE : EOk Tryz.prog (gq117.E)) : HintOk Tryz.prog { (gq117.E) with gv := [fnE [.one (.str)] [.one (.bool)] f] } (u5 Tryz.f117) (.a) := HintOk.n1 (Q := True) (by kernel_rfl) trivial
theorem gq117.hE : EOk Tryz.prog (gq117.E) := EOk.of ttOk (⟨gq154.fok, trivial⟩)
theorem gq117.fok : FOk Tryz.prog 117 gq117.fi :=
 fokS (E := gq117.E) (wy := ⟨[[none]], [[], []], []⟩) (h := (fun gs => let f := fnP [.one (.str)] [.one (.bool)] (gN 0 gs); .a)) (G := fun t g => gq117.F (fun y0 => g y0) t.1 t.2.1) (by kernel_rfl) gq117.hE Tryz.func117 (by kernel_rfl) rfl (Nat.le_refl _) (fun t => HintOk.n1 (by kernel_rfl) (gq117.hok t.2.1 gq117.hE)) (fun t g => gq117.N g (fun y0 => some y0) _ _) (fun t => by kernel_rfl)
def gq118.F {R : Type} (kk : Bool → Option R) (t_ : ByteArray) : Option R :=
 kk (decide ((ByteArray.size t_ : Int) > (65536 : Int)))
theorem gq118.N (kk : Bool → Option R) (t_) : gq118.F (fun y0 => (kk y0).bind g) t_ = (gq118.F kk t_).bind g := by
 simp only [gq118.F, u6, u9, uc, u7]
def gq118 (t_ : ByteArray) : Option Bool := gq118.F (fun y0 => some y0) t_
def gq118.out : Bool → CRes := fun a => ⟨encL SV.enc [.one (.bool)] (a, ()), [encL SC.enc [] ()]⟩
def gq118.ps : List PS := [.val [none]]
def gq118.sA : List SA := [.v (.one (.str))]
def gq118.fi : FI := FIs gq118.sA (Bool) (fun t => gq118 t.1) gq118.out gq118.ps
def gq118.E : Env := ⟨tt, lkF [], 6, 0, [], []⟩
theorem gq118.hok (hE : EOk Tryz.prog (gq118.E)) : HintOk Tryz.prog gq118.E (u5 Tryz.f118) (.a) := HintOk.n1 (Q := True) (by kernel_rfl) trivial
theorem gq118.hE : EOk Tryz.prog (gq118.E) := EOk.of ttOk (trivial)
theorem gq118.fok : FOk Tryz.prog 118 gq118.fi :=
 fokS (E := gq118.E) (wy := ⟨[[none]], [[]], []⟩) (h := (fun gs => .a)) (G := fun t g => gq118.F (fun y0 => g y0) t.1) (by kernel_rfl) gq118.hE Tryz.func118 (by kernel_rfl) rfl (Nat.le_refl _) (fun t => HintOk.n1 (by kernel_rfl) (gq118.hok gq118.hE)) (fun t g => gq118.N g (fun y0 => some y0) _) (fun t => by kernel_rfl)
def gq69.F {R : Type} (kk : Bool → Option R) (texts : List ByteArray) : Option R :=
 (gq117 texts (fun t => (gq118 t.1).bind fun a => some (a, ()))).bind fun r =>
 kk (!r)
theorem gq69.N (kk : Bool → Option R) (texts) : gq69.F (fun y0 => (kk y0).bind g) texts = (gq69.F kk texts).bind g := by
 simp only [gq69.F, u6, u9, uc, u7]
def gq69 (texts : List ByteArray) : Option Bool := gq69.F (fun y0 => some y0) texts
def gq69.out : Bool → CRes := fun a => ⟨encL SV.enc [.one (.bool)] (a, ()), [encL SC.enc [] ()]⟩
def gq69.ps : List PS := [.val [some (.str, false)]]
def gq69.sA : List SA := [.v (.one (.slv [] .str))]
def gq69.fi : FI := FIs gq69.sA (Bool) (fun t => gq69 t.1) gq69.out gq69.ps
def gq69.E : Env := ⟨tt, lkF [(117, gq117.fi), (118, gq118.fi)], 6, 0, [], []⟩
theorem gq69.hok (hE : EOk Tryz.prog (gq69.E)) : HintOk Tryz.prog gq69.E (u5 Tryz.f69) (.a) := HintOk.n1 (Q := True) (by kernel_rfl) trivial
theorem gq69.hE : EOk Tryz.prog (gq69.E) := EOk.of ttOk (⟨gq117.fok, ⟨gq118.fok, trivial⟩⟩)
theorem gq69.fok : FOk Tryz.prog 69 gq69.fi :=
 fokS (E := gq69.E) (wy := ⟨[[none]], [[]], []⟩) (h := (fun gs => .a)) (G := fun t g => gq69.F (fun y0 => g y0) t.1) (by kernel_rfl) gq69.hE Tryz.func69 (by kernel_rfl) rfl (Nat.le_refl _) (fun t => HintOk.n1 (by kernel_rfl) (gq69.hok gq69.hE)) (fun t g => gq69.N g (fun y0 => some y0) _) (fun t => by kernel_rfl)
def gq101.F {R : Type} (kk : List (El u4) → Option R) (s : List (El u4)) : Option R :=
 cond (List.isEmpty s) (
  ub5 (kk []) (
   grd (gRm (((List.length ([] : List (El u4))) + (List.length s)) * 40)) <|
   kk (([] : List (El u4)) ++ s))) (
  grd (gRm (((List.length ([] : List (El u4))) + (List.length s)) * 40)) <|
  kk (([] : List (El u4)) ++ s))
theorem gq101.N (kk : List (El u4) → Option R) (s) : gq101.F (fun y0 => (kk y0).bind g) s = (gq101.F kk s).bind g := by
 cases s with
 | nil =>
  have e : ∀ {R : Type} (k : List (El u4) → Option R), gq101.F k [] = ub5 (k []) (k []) := fun k => by kernel_rfl
  rw [e, e, u50, u50]
 | cons x l => simp only [gq101.F, List.isEmpty_cons, cond_false, u6]
def gq101 (s : List (El u4)) : Option (List (El u4)) := gq101.F (fun y0 => some y0) s
def gq101.out : (List (El u4)) → CRes := fun a => ⟨encL SV.enc [.one (.own [] u4 true)] (a, ()), [encL SC.enc [] ()]⟩
def gq101.ps : List PS := [.val [some (u4, false)]]
def gq101.sA : List SA := [.v (.one (.slv [] u4))]
def gq101.fi : FI := FIs gq101.sA (List (El u4)) (fun t => gq101 t.1) gq101.out gq101.ps
def gq101.E : Env := ⟨tt, lkF [], 8, 0, [], []⟩
theorem gq101.hok (hE : EOk Tryz.prog (gq101.E)) : HintOk Tryz.prog gq101.E (u5 Tryz.f101) (.a) := HintOk.n1 (Q := True) (by kernel_rfl) trivial
theorem gq101.hE : EOk Tryz.prog (gq101.E) := EOk.of ttOk (trivial)
theorem gq101.fok : FOk Tryz.prog 101 gq101.fi :=
 fokS (E := gq101.E) (wy := ⟨[[some (u4, true)]], [[]], []⟩) (h := (fun gs => .a)) (G := fun t g => gq101.F (fun y0 => g y0) t.1) (by kernel_rfl) gq101.hE Tryz.func101 (by kernel_rfl) rfl (Nat.le_refl _) (fun t => HintOk.n1 (by kernel_rfl) (gq101.hok gq101.hE)) (fun t g => gq101.N g (fun y0 => some y0) _) (fun t => by kernel_rfl)
def gq53.F {R : Type} (kk : Int → List (El u4) → Option R) (w94 : Int) (w93 : List (El u4)) : Option R :=
 (gq101 w93).bind fun r =>
 kk w94 r
theorem gq53.N (kk : Int → List (El u4) → Option R) (w94 w93) : gq53.F (fun y0 y1 => (kk y0 y1).bind g) w94 w93 = (gq53.F kk w94 w93).bind g := by
 simp only [gq53.F, u6, u9, uc, u7]
def gq53 (w94 : Int) (w93 : List (El u4)) : Option (Int × List (El u4)) := gq53.F (fun y0 y1 => some (y0, y1)) w94 w93
def gq53.out : (Int × List (El u4)) → CRes := fun a => ⟨encL SV.enc [.agg [.int .i64, .own [] u4 true]] ((a.1, a.2, ()), ()), [encL SC.enc [] ()]⟩
def gq53.ps : List PS := [.val [none, some (u4, false)]]
def gq53.sA : List SA := [.v (.agg [.int .i64, .slv [] u4])]
def gq53.fi : FI := FIs gq53.sA (Int × List (El u4)) (fun t => gq53 t.1.1 t.1.2.1) gq53.out gq53.ps
def gq53.E : Env := ⟨tt, lkF [(101, gq101.fi)], 9, 0, [], []⟩
theorem gq53.hok (hE : EOk Tryz.prog (gq53.E)) : HintOk Tryz.prog gq53.E (u5 Tryz.f53) (.a) := HintOk.n1 (Q := True) (by kernel_rfl) trivial
theorem gq53.hE : EOk Tryz.prog (gq53.E) := EOk.of ttOk (⟨gq101.fok, trivial⟩)
theorem gq53.fok : FOk Tryz.prog 53 gq53.fi :=
 fokS (E := gq53.E) (wy := ⟨[[none, some (u4, true)]], [[]], []⟩) (h := (fun gs => .a)) (G := fun t g => gq53.F (fun y0 y1 => g (y0, y1)) t.1.1 t.1.2.1) (by kernel_rfl) gq53.hE Tryz.func53 (by kernel_rfl) rfl (Nat.le_refl _) (fun t => HintOk.n1 (by kernel_rfl) (gq53.hok gq53.hE)) (fun t g => gq53.N g (fun y0 y1 => some (y0, y1)) _ _) (fun t => by kernel_rfl)
def gq127.l1 {R : Type} (cmp : (((ByteArray × ByteArray × Int × Unit) × ByteArray × Unit) → Option (Int × Unit))) (kke0 : List (El u4) → ByteArray → Int → Int → Option R) : Nat → List (El u4) → ByteArray → Int → Int → Int → Option R
 | 0, _, _, _, _, _ => none
 | n + 1, x, target, n_, i, j =>
  cond (decide (i < j)) (
   grd (gSh (1 : Int)) <|
   grd (gIx (IntKind.wrap .i64 (iShr .u64 (IntKind.wrap .u64 (IntKind.wrap .i64 (i + j))) (1 : Int))) (List.length x)) <|
   (cmp (((rdE u4 x (Int.toNat (IntKind.wrap .i64 (iShr .u64 (IntKind.wrap .u64 (IntKind.wrap .i64 (i + j))) (1 : Int))))).1, (rdE u4 x (Int.toNat (IntKind.wrap .i64 (iShr .u64 (IntKind.wrap .u64 (IntKind.wrap .i64 (i + j))) (1 : Int))))).2.1, (rdE u4 x (Int.toNat (IntKind.wrap .i64 (iShr .u64 (IntKind.wrap .u64 (IntKind.wrap .i64 (i + j))) (1 : Int))))).2.2, ()), target, ())).bind fun r =>
   cond (decide (r.1 < (0 : Int))) (
    gq127.l1 cmp kke0 n x target n_ (IntKind.wrap .i64 ((IntKind.wrap .i64 (iShr .u64 (IntKind.wrap .u64 (IntKind.wrap .i64 (i + j))) (1 : Int))) + (1 : Int))) j) (
    gq127.l1 cmp kke0 n x target n_ i (IntKind.wrap .i64 (iShr .u64 (IntKind.wrap .u64 (IntKind.wrap .i64 (i + j))) (1 : Int))))) (kke0 x target n_ i)
theorem gq127.l1_nat (cmp : (((ByteArray × ByteArray × Int × Unit) × ByteArray × Unit) → Option (Int × Unit))) (kke0 : List (El u4) → ByteArray → Int → Int → Option R) : ∀ n x target n_ i j, gq127.l1 cmp (fun y0 y1 y2 y3 => (kke0 y0 y1 y2 y3).bind g) n x target n_ i j = (gq127.l1 cmp kke0 n x target n_ i j).bind g := by
 intro n
 induction n with
 | zero => intros; rfl
 | succ n ih => intros; simp only [gq127.l1, u6, u9, uc, u7, ih]
def gq127.F {R : Type} (kk : Int → Bool → Option R) (x : List (El u4)) (target : ByteArray) (cmp : (((ByteArray × ByteArray × Int × Unit) × ByteArray × Unit) → Option (Int × Unit))) : Option R :=
 gq127.l1 cmp (fun x1 target1 n_ i =>
  cond (decide (i < n_)) (
   grd (gIx i (List.length x1)) <|
   (cmp (((rdE u4 x1 (Int.toNat i)).1, (rdE u4 x1 (Int.toNat i)).2.1, (rdE u4 x1 (Int.toNat i)).2.2, ()), target1, ())).bind fun r =>
   kk i (r.1 == (0 : Int))) (kk i false)) fuel x target (List.length x : Int) (0 : Int) (List.length x : Int)
theorem gq127.N (kk : Int → Bool → Option R) (x target cmp) : gq127.F (fun y0 y1 => (kk y0 y1).bind g) x target cmp = (gq127.F kk x target cmp).bind g := by
 simp only [gq127.F, u6, u9, uc, u7, ← gq127.l1_nat]
def gq127 (x : List (El u4)) (target : ByteArray) (cmp : (((ByteArray × ByteArray × Int × Unit) × ByteArray × Unit) → Option (Int × Unit))) : Option (Int × Bool) := gq127.F (fun y0 y1 => some (y0, y1)) x target cmp
def gq127.out : (Int × Bool) → CRes := fun a => ⟨encL SV.enc [.one (.int .i64), .one (.bool)] (a.1, a.2, ()), [encL SC.enc [] (), encL SC.enc [] (), encL SC.enc [] ()]⟩
def gq127.ps : List PS := [.val [some (u4, false)], .val [none], .fn [.one (.int .i64)]]
def gq127.sA : List SA := [.v (.one (.slv [] u4)), .v (.one (.str)), .fn [.agg [.str, .str, .int .i64], .one (.str)] [.one (.int .i64)]]
def gq127.fi : FI := FIs gq127.sA (Int × Bool) (fun t => gq127 t.1 t.2.1 t.2.2.1) gq127.out gq127.ps
def gq127.E : Env := ⟨tt, lkF [], 49, 0, [], []⟩
def gq127.sh1 : SK := ⟨[.v (.one (.slv [1] u4)), .v (.one (.str)), .v (.one (.fv 0)), .v (.one (.int .i64)), .v (.one (.int .i64)), .v (.one (.int .i64))], []⟩
def gq127.sh1e0 : SK := ⟨[.v (.one (.slv [1] u4)), .v (.one (.str)), .v (.one (.fv 0)), .v (.one (.int .i64)), .v (.one (.int .i64))], []⟩
def gq127.ko1 : Ex → List u16 × List Nat
 | .nrm => ([], [])
 | .ret => ([], [])
 | .ext i => cond (Nat.beq i 0) ([], [0, 1, 2, 8, 9]) ([], [])
def gq127.G1 (cmp : (((ByteArray × ByteArray × Int × Unit) × ByteArray × Unit) → Option (Int × Unit))) (n : Nat) (R : Type) (t : gq127.sh1.T) (K : Ex → Kp → Option R) : Option R := gq127.l1 cmp (fun y0 y1 y2 y3 => K (.ext 0) (SK.enc gq127.sh1e0 ((y0, y1, (), y2, y3, ()), ()))) n t.1.1 t.1.2.1 t.1.2.2.2.1 t.1.2.2.2.2.1 t.1.2.2.2.2.2.1
def gq127.S1 (cmp : (((ByteArray × ByteArray × Int × Unit) × ByteArray × Unit) → Option (Int × Unit))) : Sum := ⟨([], [0, 1, 2, 8, 9, 10]), sumF gq127.sh1 (gq127.G1 cmp fuel), gq127.ko1⟩
theorem gq127.ok1 (cmp : (((ByteArray × ByteArray × Int × Unit) × ByteArray × Unit) → Option (Int × Unit))) (hE : EOk Tryz.prog (gq127.E)) : u15 Tryz.prog { (gq127.E) with gv := [fnE [.agg [.str, .str, .int .i64], .one (.str)] [.one (.int .i64)] cmp] } (cB (cL (cR (cR (cR (u5 Tryz.f127)))))) (gq127.S1 cmp) := by
 have hh : HintOk Tryz.prog { (gq127.E) with gv := [fnE [.agg [.str, .str, .int .i64], .one (.str)] [.one (.int .i64)] cmp] } (cB (cB (cL (cR (cR (cR (u5 Tryz.f127))))))) (.a) := HintOk.n1 (Q := True) (by kernel_rfl) trivial
 have h := u2a (kin := ([], [0, 1, 2, 8, 9, 10])) (kout := gq127.ko1) (sh := gq127.sh1) (F := gq127.G1 cmp) (u1a (hE.gv _)) (by kernel_rfl) hh (fun _ _ _ => rfl) (fun n R t K => by kernel_rfl) fuel
 exact HintOk.n1 (c := (cB (cL (cR (cR (cR (u5 Tryz.f127))))))) (h := .s (gq127.S1 cmp)) (P := Tryz.prog) (E := { (gq127.E) with gv := [fnE [.agg [.str, .str, .int .i64], .one (.str)] [.one (.int .i64)] cmp] }) (by kernel_rfl) h
theorem gq127.hok (cmp : (((ByteArray × ByteArray × Int × Unit) × ByteArray × Unit) → Option (Int × Unit))) (hE : EOk Tryz.prog (gq127.E)) : HintOk Tryz.prog { (gq127.E) with gv := [fnE [.agg [.str, .str, .int .i64], .one (.str)] [.one (.int .i64)] cmp] } (u5 Tryz.f127) (.n (.a) (.n (.a) (.n (.a) (.n (.b (.s (gq127.S1 cmp))) (.a))))) := HintOk.n1 (Q := (True) ∧ ((True) ∧ ((True) ∧ ((u15 Tryz.prog { (gq127.E) with gv := [fnE [.agg [.str, .str, .int .i64], .one (.str)] [.one (.int .i64)] cmp] } (cB (cL (cR (cR (cR (u5 Tryz.f127)))))) (gq127.S1 cmp)) ∧ (True))))) (by kernel_rfl) ⟨trivial, ⟨trivial, ⟨trivial, ⟨(gq127.ok1 cmp hE), trivial⟩⟩⟩⟩
theorem gq127.hE : EOk Tryz.prog (gq127.E) := EOk.of ttOk (trivial)
theorem gq127.fok : FOk Tryz.prog 127 gq127.fi :=
 fokS (E := gq127.E) (wy := ⟨[[none], [none]], [[], [], []], []⟩) (h := (fun gs => let cmp := fnP [.agg [.str, .str, .int .i64], .one (.str)] [.one (.int .i64)] (gN 0 gs); .n (.a) (.n (.a) (.n (.a) (.n (.b (.s (gq127.S1 cmp))) (.a)))))) (G := fun t g => gq127.F (fun y0 y1 => g (y0, y1)) t.1 t.2.1 t.2.2.1) (by kernel_rfl) gq127.hE Tryz.func127 (by kernel_rfl) rfl (Nat.le_refl _) (fun t => HintOk.n1 (by kernel_rfl) (gq127.hok t.2.2.1 gq127.hE)) (fun t g => gq127.N g (fun y0 y1 => some (y0, y1)) _ _ _) (fun t => by kernel_rfl)
theorem cmp_ex : ∃ f : ByteArray → ByteArray → Int, f = (fun a b => Lib.compareBytes a.data.toList b.data.toList) := ⟨_, rfl⟩
noncomputable def cmpS : ByteArray → ByteArray → Int := Classical.choose cmp_ex
theorem v8f (a b : ByteArray) : cmpS a b = Lib.compareBytes a.data.toList b.data.toList := congrFun (congrFun (Classical.choose_spec cmp_ex) a) b
noncomputable def gq129.F {R : Type} (kk : Int → Option R) (a b : ByteArray) : Option R := kk (cmpS a b)
theorem ve4 : ∃ f : ByteArray → ByteArray → Option Int, f = fun a b => gq129.F (fun y0 => some y0) a b := ⟨_, rfl⟩
noncomputable def gq129 : ByteArray → ByteArray → Option Int := Classical.choose ve4
theorem vc8 (a b : ByteArray) : gq129 a b = gq129.F (fun y0 => some y0) a b := congrFun (congrFun (Classical.choose_spec ve4) a) b
def gq129.out : (Int) → CRes := fun a => ⟨encL SV.enc [.one (.int .i64)] (a, ()), [encL SC.enc [] (), encL SC.enc [] ()]⟩
def gq129.ps : List PS := [.val [none], .val [none]]
def gq129.sA : List SA := [.v (.one (.str)), .v (.one (.str))]
noncomputable def gq129.fi : FI := FIs gq129.sA (Int) (fun t => gq129 t.1 t.2.1) gq129.out gq129.ps
theorem gq129.fok : FOk Tryz.prog 129 gq129.fi := by
 refine w82 ⟨_, _, Tryz.func129, by kernel_rfl, rfl⟩ (by kernel_rfl) (fun a => [.int .i64 a]) (fun a => by kernel_rfl) (fun a => by kernel_rfl) (fun t a h w => ?_)
 obtain ⟨s, c, u⟩ := t
 have h' : some (cmpS s c) = some a := (vc8 s c).symm.trans h
 obtain rfl := Option.some.inj h'
 rw [v8f]
 refine (Any.strings_Compare Tryz.lays106 s c w).mono ?_
 rintro e w' ⟨rfl, rfl⟩
 exact ⟨rfl, RowKit.Below.refl _ _⟩
def gq128.F {R : Type} (kk : Int → Option R) (wad : ByteArray) (waf : ByteArray) (wb1 : Int) (name : ByteArray) : Option R :=
 (gq129 wad name).bind fun r =>
 kk r
theorem gq128.N (kk : Int → Option R) (wad waf wb1 name) : gq128.F (fun y0 => (kk y0).bind g) wad waf wb1 name = (gq128.F kk wad waf wb1 name).bind g := by
 simp only [gq128.F, u6, u9, uc, u7]
def gq128 (wad : ByteArray) (waf : ByteArray) (wb1 : Int) (name : ByteArray) : Option Int := gq128.F (fun y0 => some y0) wad waf wb1 name
def gq128.out : Int → CRes := fun a => ⟨encL SV.enc [.one (.int .i64)] (a, ()), [encL SC.enc [] (), encL SC.enc [] ()]⟩
def gq128.ps : List PS := [.val [none, none, none], .val [none]]
def gq128.sA : List SA := [.v (.agg [.str, .str, .int .i64]), .v (.one (.str))]
def gq128.fi : FI := FIs gq128.sA (Int) (fun t => gq128 t.1.1 t.1.2.1 t.1.2.2.1 t.2.1) gq128.out gq128.ps
def gq128.E : Env := ⟨tt, lkF [(129, gq129.fi)], 9, 0, [], []⟩
theorem gq128.hok (hE : EOk Tryz.prog (gq128.E)) : HintOk Tryz.prog gq128.E (u5 Tryz.f128) (.a) := HintOk.n1 (Q := True) (by kernel_rfl) trivial
theorem gq128.hE : EOk Tryz.prog (gq128.E) := EOk.of ttOk (⟨gq129.fok, trivial⟩)
theorem gq128.fok : FOk Tryz.prog 128 gq128.fi :=
 fokS (E := gq128.E) (wy := ⟨[[none]], [[], []], []⟩) (h := (fun gs => .a)) (G := fun t g => gq128.F (fun y0 => g y0) t.1.1 t.1.2.1 t.1.2.2.1 t.2.1) (by kernel_rfl) gq128.hE Tryz.func128 (by kernel_rfl) rfl (Nat.le_refl _) (fun t => HintOk.n1 (by kernel_rfl) (gq128.hok gq128.hE)) (fun t g => gq128.N g (fun y0 => some y0) _ _ _ _) (fun t => by kernel_rfl)
def gq76.F {R : Type} (kk : Int → Bool → Option R) (w94 : Int) (w93 : List (El u4)) (name : ByteArray) : Option R :=
 (gq127 w93 name (fun t => (gq128 t.1.1 t.1.2.1 t.1.2.2.1 t.2.1).bind fun a => some (a, ()))).bind fun r =>
 kk r.1 r.2
theorem gq76.N (kk : Int → Bool → Option R) (w94 w93 name) : gq76.F (fun y0 y1 => (kk y0 y1).bind g) w94 w93 name = (gq76.F kk w94 w93 name).bind g := by
 simp only [gq76.F, u6, u9, uc, u7]
def gq76 (w94 : Int) (w93 : List (El u4)) (name : ByteArray) : Option (Int × Bool) := gq76.F (fun y0 y1 => some (y0, y1)) w94 w93 name
def gq76.out : (Int × Bool) → CRes := fun a => ⟨encL SV.enc [.one (.int .i64), .one (.bool)] (a.1, a.2, ()), [encL SC.enc [] (), encL SC.enc [] ()]⟩
def gq76.ps : List PS := [.val [none, some (u4, false)], .val [none]]
def gq76.sA : List SA := [.v (.agg [.int .i64, .slv [] u4]), .v (.one (.str))]
def gq76.fi : FI := FIs gq76.sA (Int × Bool) (fun t => gq76 t.1.1 t.1.2.1 t.2.1) gq76.out gq76.ps
def gq76.E : Env := ⟨tt, lkF [(127, gq127.fi), (128, gq128.fi)], 12, 0, [], []⟩
theorem gq76.hok (hE : EOk Tryz.prog (gq76.E)) : HintOk Tryz.prog gq76.E (u5 Tryz.f76) (.a) := HintOk.n1 (Q := True) (by kernel_rfl) trivial
theorem gq76.hE : EOk Tryz.prog (gq76.E) := EOk.of ttOk (⟨gq127.fok, ⟨gq128.fok, trivial⟩⟩)
theorem gq76.fok : FOk Tryz.prog 76 gq76.fi :=
 fokS (E := gq76.E) (wy := ⟨[[none], [none]], [[], []], []⟩) (h := (fun gs => .a)) (G := fun t g => gq76.F (fun y0 y1 => g (y0, y1)) t.1.1 t.1.2.1 t.2.1) (by kernel_rfl) gq76.hE Tryz.func76 (by kernel_rfl) rfl (Nat.le_refl _) (fun t => HintOk.n1 (by kernel_rfl) (gq76.hok gq76.hE)) (fun t g => gq76.N g (fun y0 y1 => some (y0, y1)) _ _ _) (fun t => by kernel_rfl)
def gq104.j1 {R : Type} (kkn : ByteArray → ByteArray → Int → Bool → Bool → Int → List (El u4) → Option R) (name : ByteArray) (data : ByteArray) (k_ : Int) (found : Bool) (d : Int) (l : List (El u4)) : Option R :=
 cond (!found) (
  cond ((List.length l : Int) == (8 : Int)) (kkn name data k_ found true d l) (
   (gq113 d l).bind fun r =>
   kkn name data k_ found (decide ((ByteArray.size data : Int) > (IntKind.wrap .i64 (d - r)))) d l)) (
  (gq113 d l).bind fun r1 =>
  kkn name data k_ found (decide ((ByteArray.size data : Int) > (IntKind.wrap .i64 (d - r1)))) d l)
theorem gq104.j1_nat (kkn : ByteArray → ByteArray → Int → Bool → Bool → Int → List (El u4) → Option R) (name data k_ found d l) : gq104.j1 (fun y0 y1 y2 y3 y4 y5 y6 => (kkn y0 y1 y2 y3 y4 y5 y6).bind g) name data k_ found d l = (gq104.j1 kkn name data k_ found d l).bind g := by
 simp only [gq104.j1, u6, u9, uc, u7]
def gq104.j2 {R : Type} (kkn : ByteArray → Int → Int → List (El u4) → Option R) (kkr : Int → Int → List (El u4) → Option R) (name : ByteArray) (data : ByteArray) (k_ : Int) (found : Bool) (d : Int) (l : List (El u4)) : Option R :=
 (gq114 name).bind fun r =>
 cond (!r) (kkr (1 : Int) d l) (
  gq104.j1 (fun name1 data1 k_1 found1 b d1 l1 =>
   cond (b) (kkr (7 : Int) d1 l1) (
    cond (!found1) (
     (gq149 l1 k_1 [(name1, (ByteArray.empty, (0 : Int)))]).bind fun r1 =>
     kkn data1 k_1 d1 r1) (kkn data1 k_1 d1 l1))) name data k_ found d l)
theorem gq104.j2_nat (kkn : ByteArray → Int → Int → List (El u4) → Option R) (kkr : Int → Int → List (El u4) → Option R) (name data k_ found d l) : gq104.j2 (fun y0 y1 y2 y3 => (kkn y0 y1 y2 y3).bind g) (fun y0 y1 y2 => (kkr y0 y1 y2).bind g) name data k_ found d l = (gq104.j2 kkn kkr name data k_ found d l).bind g := by
 simp only [gq104.j2, u6, u9, uc, u7, ← gq104.j1_nat]
def gq104.F {R : Type} (kk : Int → Int → List (El u4) → Option R) (w94 : Int) (w93 : List (El u4)) (name : ByteArray) (data : ByteArray) : Option R :=
 (gq76 w94 w93 name).bind fun r =>
 gq104.j2 (fun data1 k_ d l =>
  grd (gIx k_ (List.length l)) <|
  grd (gCat (rdE u4 l (Int.toNat k_)).2.1 data1) <|
  grd (gIx k_ (List.length l)) <|
  kk (0 : Int) d (setE u4 l (Int.toNat k_) ((rdE u4 l (Int.toNat k_)).1, ((rdE u4 l (Int.toNat k_)).2.1 ++ data1, (rdE u4 l (Int.toNat k_)).2.2)))) (fun i d1 l1 => kk i d1 l1) name data r.1 r.2 w94 w93
theorem gq104.N (kk : Int → Int → List (El u4) → Option R) (w94 w93 name data) : gq104.F (fun y0 y1 y2 => (kk y0 y1 y2).bind g) w94 w93 name data = (gq104.F kk w94 w93 name data).bind g := by
 simp only [gq104.F, u6, u9, uc, u7, ← gq104.j2_nat]
def gq104 (w94 : Int) (w93 : List (El u4)) (name : ByteArray) (data : ByteArray) : Option (Int × Int × List (El u4)) := gq104.F (fun y0 y1 y2 => some (y0, y1, y2)) w94 w93 name data
def gq104.out : (Int × Int × List (El u4)) → CRes := fun a => ⟨encL SV.enc [.one (.int .i64)] (a.1, ()), [encL SC.enc [.int .i64, .own [] u4 true] (a.2.1, a.2.2, ()), encL SC.enc [] (), encL SC.enc [] ()]⟩
def gq104.ps : List PS := [.ptr [none, some (u4, true)], .val [none], .val [none]]
def gq104.sA : List SA := [.ptr [.int .i64, .own [] u4 true], .v (.one (.str)), .v (.one (.str))]
def gq104.fi : FI := FIs gq104.sA (Int × Int × List (El u4)) (fun t => gq104 t.1.1 t.1.2.1 t.2.1 t.2.2.1) gq104.out gq104.ps
def gq104.E : Env := ⟨tt, lkF [(76, gq76.fi), (113, gq113.fi), (114, gq114.fi), (149, gq149.fi)], 73, 1, [], []⟩
def gq104.sh1 : SK := ⟨[.v (.one (.bptr 0 0)), .v (.one (.str)), .v (.one (.str)), .v (.one (.int .i64)), .v (.one (.bool))], [.box [.int .i64, .slo 1], .arr u4 [] true]⟩
def gq104.sh1n : SK := ⟨[.v (.one (.bptr 0 0)), .v (.one (.str)), .v (.one (.str)), .v (.one (.int .i64)), .v (.one (.bool)), .v (.one (.bool))], [.box [.int .i64, .slo 1], .arr u4 [] true]⟩
def gq104.ko1 : Ex → List u16 × List Nat
 | .nrm => ([], [0, 1, 2, 7, 8, 21])
 | .ret => ([], [])
 | .ext i => ([], [])
def gq104.G1 (R : Type) (t : gq104.sh1.T) (K : Ex → Kp → Option R) : Option R := gq104.j1 (fun y0 y1 y2 y3 y4 y5 y6 => K .nrm (SK.enc gq104.sh1n (((), y0, y1, y2, y3, y4, ()), ((y5, (), ()), y6, ())))) t.1.2.1 t.1.2.2.1 t.1.2.2.2.1 t.1.2.2.2.2.1 t.2.1.1 t.2.2.1
def gq104.S1 : Sum := ⟨([], [0, 1, 2, 7, 8]), sumF gq104.sh1 (gq104.G1), gq104.ko1⟩
theorem gq104.ok1 (hE : EOk Tryz.prog (gq104.E)) : u15 Tryz.prog gq104.E (cL (cR (cR (cB (cL (cR (cR (u5 Tryz.f104)))))))) (gq104.S1) := by
 have hh : HintOk Tryz.prog gq104.E (cL (cR (cR (cB (cL (cR (cR (u5 Tryz.f104)))))))) (.a) := HintOk.n1 (Q := True) (by kernel_rfl) trivial
 exact sumS (kin := ([], [0, 1, 2, 7, 8])) (kout := gq104.ko1) (sh := gq104.sh1) (F := gq104.G1) (u1a (hE.gv _)) (by kernel_rfl) hh (fun R t K => by kernel_rfl)
def gq104.sh2 : SK := ⟨[.v (.one (.bptr 0 0)), .v (.one (.str)), .v (.one (.str)), .v (.one (.int .i64)), .v (.one (.bool))], [.box [.int .i64, .slo 1], .arr u4 [] true]⟩
def gq104.sh2n : SK := ⟨[.v (.one (.bptr 0 0)), .v (.one (.str)), .v (.one (.int .i64))], [.box [.int .i64, .slo 1], .arr u4 [] true]⟩
def gq104.sh2r : SK := ⟨[.v (.one (.bptr 0 0)), .v (.one (.int .i64))], [.box [.int .i64, .slo 1], .arr u4 [] true]⟩
def gq104.ko2 : Ex → List u16 × List Nat
 | .nrm => ([], [0, 2, 7])
 | .ret => ([], [0, 6])
 | .ext i => ([], [])
def gq104.G2 (R : Type) (t : gq104.sh2.T) (K : Ex → Kp → Option R) : Option R := gq104.j2 (fun y0 y1 y2 y3 => K .nrm (SK.enc gq104.sh2n (((), y0, y1, ()), ((y2, (), ()), y3, ())))) (fun y0 y1 y2 => K .ret (SK.enc gq104.sh2r (((), y0, ()), ((y1, (), ()), y2, ())))) t.1.2.1 t.1.2.2.1 t.1.2.2.2.1 t.1.2.2.2.2.1 t.2.1.1 t.2.2.1
def gq104.S2 : Sum := ⟨([], [0, 1, 2, 7, 8]), sumF gq104.sh2 (gq104.G2), gq104.ko2⟩
theorem gq104.ok2 (hE : EOk Tryz.prog (gq104.E)) : u15 Tryz.prog gq104.E (cL (cR (cR (u5 Tryz.f104)))) (gq104.S2) := by
 have hh : HintOk Tryz.prog gq104.E (cL (cR (cR (u5 Tryz.f104)))) (.b (.n (.a) (.n (.a) (.n (.s (gq104.S1)) (.a))))) := HintOk.n1 (Q := (True) ∧ ((True) ∧ ((u15 Tryz.prog gq104.E (cL (cR (cR (cB (cL (cR (cR (u5 Tryz.f104)))))))) (gq104.S1)) ∧ (True)))) (by kernel_rfl) ⟨trivial, ⟨trivial, ⟨(gq104.ok1 hE), trivial⟩⟩⟩
 exact sumS (kin := ([], [0, 1, 2, 7, 8])) (kout := gq104.ko2) (sh := gq104.sh2) (F := gq104.G2) (u1a (hE.gv _)) (by kernel_rfl) hh (fun R t K => by kernel_rfl)
theorem gq104.hok (hE : EOk Tryz.prog (gq104.E)) : HintOk Tryz.prog gq104.E (u5 Tryz.f104) (.n (.a) (.n (.a) (.n (.s (gq104.S2)) (.a)))) := HintOk.n1 (Q := (True) ∧ ((True) ∧ ((u15 Tryz.prog gq104.E (cL (cR (cR (u5 Tryz.f104)))) (gq104.S2)) ∧ (True)))) (by kernel_rfl) ⟨trivial, ⟨trivial, ⟨(gq104.ok2 hE), trivial⟩⟩⟩
theorem gq104.hE : EOk Tryz.prog (gq104.E) := EOk.of ttOk (⟨gq76.fok, ⟨gq113.fok, ⟨gq114.fok, ⟨gq149.fok, trivial⟩⟩⟩⟩)
theorem gq104.fok : FOk Tryz.prog 104 gq104.fi :=
 fokS (E := gq104.E) (wy := ⟨[[none]], [[none, some (u4, true)], [], []], []⟩) (h := (fun gs => .n (.a) (.n (.a) (.n (.s (gq104.S2)) (.a))))) (G := fun t g => gq104.F (fun y0 y1 y2 => g (y0, y1, y2)) t.1.1 t.1.2.1 t.2.1 t.2.2.1) (by kernel_rfl) gq104.hE Tryz.func104 (by kernel_rfl) rfl (Nat.le_refl _) (fun t => HintOk.n1 (by kernel_rfl) (gq104.hok gq104.hE)) (fun t g => gq104.N g (fun y0 y1 y2 => some (y0, y1, y2)) _ _ _ _) (fun t => by kernel_rfl)
def gq105.j1 {R : Type} (kkn : List Int → Nat → Int → Int → Int → Int → List (El u4) → Option R) (keep : List Int) (i : Int) (f : Nat) (more : Int) (i1 : Int) (i2 : Int) (d : Int) (f1 : List (El u4)) : Option R :=
 cond (decide (i < (List.length keep : Int))) (
  grd (gIx i (List.length keep)) <|
  kkn keep f (mx2 (0 : Int) (mn2 (rdE (.int .i64 : Kd) keep (Int.toNat i)) (IntKind.wrap .i64 ((ByteArray.size (rdE u4 f1 f).2.1 : Int) - (rdE u4 f1 f).2.2)))) i1 i2 d f1) (kkn keep f more i1 i2 d f1)
theorem gq105.j1_nat (kkn : List Int → Nat → Int → Int → Int → Int → List (El u4) → Option R) (keep i f more i1 i2 d f1) : gq105.j1 (fun y0 y1 y2 y3 y4 y5 y6 => (kkn y0 y1 y2 y3 y4 y5 y6).bind g) keep i f more i1 i2 d f1 = (gq105.j1 kkn keep i f more i1 i2 d f1).bind g := by
 simp only [gq105.j1, u6, u9, uc, u7]
def gq105.l2 {R : Type} (kke0 : Int → List (El u4) → Option R) : Nat → List Int → Int → Int → Int → List (El u4) → Option R
 | 0, _, _, _, _, _ => none
 | n + 1, keep, i, i1, d, l =>
  cond (decide (i1 < i)) (
   grd (gIx i1 (List.length l)) <|
   gq105.j1 (fun keep1 f more i2 i3 d1 f1 =>
    grd (gSl (0 : Int) (IntKind.wrap .i64 ((rdE u4 f1 f).2.2 + more)) (ByteArray.size (rdE u4 f1 f).2.1)) <|
    gq105.l2 kke0 n keep1 i2 (IntKind.wrap .i64 (i3 + (1 : Int))) d1 (setE u4 (setE u4 f1 f ((rdE u4 f1 f).1, (cut (rdE u4 f1 f).2.1 (0 : Int) (IntKind.wrap .i64 ((rdE u4 f1 f).2.2 + more)), (rdE u4 f1 f).2.2))) f ((rdE u4 (setE u4 f1 f ((rdE u4 f1 f).1, (cut (rdE u4 f1 f).2.1 (0 : Int) (IntKind.wrap .i64 ((rdE u4 f1 f).2.2 + more)), (rdE u4 f1 f).2.2))) f).1, ((rdE u4 (setE u4 f1 f ((rdE u4 f1 f).1, (cut (rdE u4 f1 f).2.1 (0 : Int) (IntKind.wrap .i64 ((rdE u4 f1 f).2.2 + more)), (rdE u4 f1 f).2.2))) f).2.1, (ByteArray.size (rdE u4 (setE u4 f1 f ((rdE u4 f1 f).1, (cut (rdE u4 f1 f).2.1 (0 : Int) (IntKind.wrap .i64 ((rdE u4 f1 f).2.2 + more)), (rdE u4 f1 f).2.2))) f).2.1 : Int))))) keep i1 (Int.toNat i1) (0 : Int) i i1 d l) (kke0 d l)
theorem gq105.l2_nat (kke0 : Int → List (El u4) → Option R) : ∀ n keep i i1 d l, gq105.l2 (fun y0 y1 => (kke0 y0 y1).bind g) n keep i i1 d l = (gq105.l2 kke0 n keep i i1 d l).bind g := by
 intro n
 induction n with
 | zero => intros; rfl
 | succ n ih => intros; simp only [gq105.l2, u6, u9, uc, u7, ← gq105.j1_nat, ih]
def gq105.F {R : Type} (kk : Int → List (El u4) → Option R) (w94 : Int) (w93 : List (El u4)) (keep : List Int) : Option R :=
 gq105.l2 (fun d l => kk d l) fuel keep (List.length w93 : Int) (0 : Int) w94 w93
theorem gq105.N (kk : Int → List (El u4) → Option R) (w94 w93 keep) : gq105.F (fun y0 y1 => (kk y0 y1).bind g) w94 w93 keep = (gq105.F kk w94 w93 keep).bind g := by
 simp only [gq105.F, u6, u9, uc, u7, ← gq105.l2_nat]
def gq105 (w94 : Int) (w93 : List (El u4)) (keep : List Int) : Option (Int × List (El u4)) := gq105.F (fun y0 y1 => some (y0, y1)) w94 w93 keep
def gq105.out : (Int × List (El u4)) → CRes := fun a => ⟨encL SV.enc [] (), [encL SC.enc [.int .i64, .own [] u4 true] (a.1, a.2, ()), encL SC.enc [] ()]⟩
def gq105.ps : List PS := [.ptr [none, some (u4, true)], .val [some ((.int .i64), false)]]
def gq105.sA : List SA := [.ptr [.int .i64, .own [] u4 true], .v (.one (.slv [] (.int .i64)))]
def gq105.fi : FI := FIs gq105.sA (Int × List (El u4)) (fun t => gq105 t.1.1 t.1.2.1 t.2.1) gq105.out gq105.ps
def gq105.E : Env := ⟨tt, lkF [], 64, 1, [], []⟩
def gq105.sh1 : SK := ⟨[.v (.one (.bptr 0 0)), .v (.one (.slv [2] (.int .i64))), .v (.one (.int .i64)), .v (.one (.eptr 1 3 0)), .v (.one (.int .i64)), .v (.one (.int .i64)), .v (.one (.int .i64))], [.box [.int .i64, .slo 1], .arr u4 [] true]⟩
def gq105.sh1n : SK := ⟨[.v (.one (.bptr 0 0)), .v (.one (.slv [2] (.int .i64))), .v (.one (.eptr 1 3 0)), .v (.one (.int .i64)), .v (.one (.int .i64)), .v (.one (.int .i64))], [.box [.int .i64, .slo 1], .arr u4 [] true]⟩
def gq105.ko1 : Ex → List u16 × List Nat
 | .nrm => ([], [0, 1, 5, 6, 11, 12])
 | .ret => ([], [])
 | .ext i => ([], [])
def gq105.G1 (R : Type) (t : gq105.sh1.T) (K : Ex → Kp → Option R) : Option R := gq105.j1 (fun y0 y1 y2 y3 y4 y5 y6 => K .nrm (SK.enc gq105.sh1n (((), y0, y1, y2, y3, y4, ()), ((y5, (), ()), y6, ())))) t.1.2.1 t.1.2.2.1 t.1.2.2.2.1 t.1.2.2.2.2.1 t.1.2.2.2.2.2.1 t.1.2.2.2.2.2.2.1 t.2.1.1 t.2.2.1
def gq105.S1 : Sum := ⟨([], [0, 1, 4, 5, 6, 11, 12]), sumF gq105.sh1 (gq105.G1), gq105.ko1⟩
theorem gq105.ok1 (hE : EOk Tryz.prog (gq105.E)) : u15 Tryz.prog gq105.E (cL (cR (cR (cB (cL (cR (cR (cB (cB (cR (u5 Tryz.f105))))))))))) (gq105.S1) := by
 have hh : HintOk Tryz.prog gq105.E (cL (cR (cR (cB (cL (cR (cR (cB (cB (cR (u5 Tryz.f105))))))))))) (.a) := HintOk.n1 (Q := True) (by kernel_rfl) trivial
 exact sumS (kin := ([], [0, 1, 4, 5, 6, 11, 12])) (kout := gq105.ko1) (sh := gq105.sh1) (F := gq105.G1) (u1a (hE.gv _)) (by kernel_rfl) hh (fun R t K => by kernel_rfl)
def gq105.sh2 : SK := ⟨[.v (.one (.bptr 0 0)), .v (.one (.slv [2] (.int .i64))), .v (.one (.int .i64)), .v (.one (.int .i64))], [.box [.int .i64, .slo 1], .arr u4 [] true]⟩
def gq105.sh2e0 : SK := ⟨[.v (.one (.bptr 0 0))], [.box [.int .i64, .slo 1], .arr u4 [] true]⟩
def gq105.ko2 : Ex → List u16 × List Nat
 | .nrm => ([], [])
 | .ret => ([], [])
 | .ext i => cond (Nat.beq i 0) ([], [0]) ([], [])
def gq105.G2 (n : Nat) (R : Type) (t : gq105.sh2.T) (K : Ex → Kp → Option R) : Option R := gq105.l2 (fun y0 y1 => K (.ext 0) (SK.enc gq105.sh2e0 (((), ()), ((y0, (), ()), y1, ())))) n t.1.2.1 t.1.2.2.1 t.1.2.2.2.1 t.2.1.1 t.2.2.1
def gq105.S2 : Sum := ⟨([], [0, 1, 11, 12]), sumF gq105.sh2 (gq105.G2 fuel), gq105.ko2⟩
theorem gq105.ok2 (hE : EOk Tryz.prog (gq105.E)) : u15 Tryz.prog gq105.E (cB (cR (u5 Tryz.f105))) (gq105.S2) := by
 have hh : HintOk Tryz.prog gq105.E (cB (cB (cR (u5 Tryz.f105)))) (.n (.a) (.n (.a) (.n (.b (.n (.a) (.n (.a) (.n (.s (gq105.S1)) (.a))))) (.a)))) := HintOk.n1 (Q := (True) ∧ ((True) ∧ (((True) ∧ ((True) ∧ ((u15 Tryz.prog gq105.E (cL (cR (cR (cB (cL (cR (cR (cB (cB (cR (u5 Tryz.f105))))))))))) (gq105.S1)) ∧ (True)))) ∧ (True)))) (by kernel_rfl) ⟨trivial, ⟨trivial, ⟨⟨trivial, ⟨trivial, ⟨(gq105.ok1 hE), trivial⟩⟩⟩, trivial⟩⟩⟩
 have h := u2a (kin := ([], [0, 1, 11, 12])) (kout := gq105.ko2) (sh := gq105.sh2) (F := gq105.G2) (u1a (hE.gv _)) (by kernel_rfl) hh (fun _ _ _ => rfl) (fun n R t K => by kernel_rfl) fuel
 exact HintOk.n1 (c := (cB (cR (u5 Tryz.f105)))) (h := .s (gq105.S2)) (P := Tryz.prog) (E := gq105.E) (by kernel_rfl) h
theorem gq105.hok (hE : EOk Tryz.prog (gq105.E)) : HintOk Tryz.prog gq105.E (u5 Tryz.f105) (.n (.a) (.b (.s (gq105.S2)))) := HintOk.n1 (Q := (True) ∧ (u15 Tryz.prog gq105.E (cB (cR (u5 Tryz.f105))) (gq105.S2))) (by kernel_rfl) ⟨trivial, (gq105.ok2 hE)⟩
theorem gq105.hE : EOk Tryz.prog (gq105.E) := EOk.of ttOk (trivial)
theorem gq105.fok : FOk Tryz.prog 105 gq105.fi :=
 fokS (E := gq105.E) (wy := ⟨[], [[none, some (u4, true)], []], []⟩) (h := (fun gs => .n (.a) (.b (.s (gq105.S2))))) (G := fun t g => gq105.F (fun y0 y1 => g (y0, y1)) t.1.1 t.1.2.1 t.2.1) (by kernel_rfl) gq105.hE Tryz.func105 (by kernel_rfl) rfl (Nat.le_refl _) (fun t => HintOk.n1 (by kernel_rfl) (gq105.hok gq105.hE)) (fun t g => gq105.N g (fun y0 y1 => some (y0, y1)) _ _ _) (fun t => by kernel_rfl)
def gq106.F {R : Type} (kk : Int → Int → List (El u4) → Option R) (w94 : Int) (w93 : List (El u4)) (k_ : Int) (to_ : ByteArray) : Option R :=
 (gq114 to_).bind fun r =>
 cond (!r) (kk (1 : Int) w94 w93) (
  grd (gIx k_ (List.length w93)) <|
  (gq107 w93 k_ (IntKind.wrap .i64 (k_ + (1 : Int)))).bind fun r1 =>
  (gq76 w94 r1 to_).bind fun r2 =>
  cond (r2.2) (
   grd (gIx r2.1 (List.length r1)) <|
   kk (0 : Int) w94 (setE u4 r1 (Int.toNat r2.1) (to_, (rdE u4 w93 (Int.toNat k_)).2))) (
   (gq149 r1 r2.1 [(to_, (rdE u4 w93 (Int.toNat k_)).2)]).bind fun r3 =>
   kk (0 : Int) w94 r3))
theorem gq106.N (kk : Int → Int → List (El u4) → Option R) (w94 w93 k_ to_) : gq106.F (fun y0 y1 y2 => (kk y0 y1 y2).bind g) w94 w93 k_ to_ = (gq106.F kk w94 w93 k_ to_).bind g := by
 simp only [gq106.F, u6, u9, uc, u7]
def gq106 (w94 : Int) (w93 : List (El u4)) (k_ : Int) (to_ : ByteArray) : Option (Int × Int × List (El u4)) := gq106.F (fun y0 y1 y2 => some (y0, y1, y2)) w94 w93 k_ to_
def gq106.out : (Int × Int × List (El u4)) → CRes := fun a => ⟨encL SV.enc [.one (.int .i64)] (a.1, ()), [encL SC.enc [.int .i64, .own [] u4 true] (a.2.1, a.2.2, ()), encL SC.enc [] (), encL SC.enc [] ()]⟩
def gq106.ps : List PS := [.ptr [none, some (u4, true)], .val [none], .val [none]]
def gq106.sA : List SA := [.ptr [.int .i64, .own [] u4 true], .v (.one (.int .i64)), .v (.one (.str))]
def gq106.fi : FI := FIs gq106.sA (Int × Int × List (El u4)) (fun t => gq106 t.1.1 t.1.2.1 t.2.1 t.2.2.1) gq106.out gq106.ps
def gq106.E : Env := ⟨tt, lkF [(76, gq76.fi), (107, gq107.fi), (114, gq114.fi), (149, gq149.fi)], 60, 1, [], []⟩
theorem gq106.hok (hE : EOk Tryz.prog (gq106.E)) : HintOk Tryz.prog gq106.E (u5 Tryz.f106) (.a) := HintOk.n1 (Q := True) (by kernel_rfl) trivial
theorem gq106.hE : EOk Tryz.prog (gq106.E) := EOk.of ttOk (⟨gq76.fok, ⟨gq107.fok, ⟨gq114.fok, ⟨gq149.fok, trivial⟩⟩⟩⟩)
theorem gq106.fok : FOk Tryz.prog 106 gq106.fi :=
 fokS (E := gq106.E) (wy := ⟨[[none]], [[none, some (u4, true)], [], []], []⟩) (h := (fun gs => .a)) (G := fun t g => gq106.F (fun y0 y1 y2 => g (y0, y1, y2)) t.1.1 t.1.2.1 t.2.1 t.2.2.1) (by kernel_rfl) gq106.hE Tryz.func106 (by kernel_rfl) rfl (Nat.le_refl _) (fun t => HintOk.n1 (by kernel_rfl) (gq106.hok gq106.hE)) (fun t g => gq106.N g (fun y0 y1 y2 => some (y0, y1, y2)) _ _ _ _) (fun t => by kernel_rfl)
def gq55.F {R : Type} (kk : Int → Int → List (El u4) → Option R) (w94 : Int) (w93 : List (El u4)) (w9c : Int) (a_N : Int) (w9d : ByteArray) (wa0 : ByteArray) (wa1 : ByteArray) (wa2 : List Int) : Option R :=
 cond (w9c == (1 : Int)) (
  (gq104 w94 w93 w9d wa1).bind fun r =>
  kk r.1 r.2.1 r.2.2) (
  cond (w9c == (5 : Int)) (
   (gq105 w94 w93 wa2).bind fun r1 =>
   kk (0 : Int) r1.1 r1.2) (
   (gq67 w9c (2 : Int) (6 : Int)).bind fun r2 =>
   cond (!r2) (kk (3 : Int) w94 w93) (
    (gq76 w94 w93 w9d).bind fun r3 =>
    cond (!r3.2) (kk (5 : Int) w94 w93) (
     grd (gIx r3.1 (List.length w93)) <|
     cond (w9c == (2 : Int)) (
      kk (0 : Int) w94 (setE u4 w93 (Int.toNat r3.1) ((rdE u4 w93 (Int.toNat r3.1)).1, ((rdE u4 w93 (Int.toNat r3.1)).2.1, (ByteArray.size (rdE u4 w93 (Int.toNat r3.1)).2.1 : Int))))) (
      cond (w9c == (3 : Int)) (
       (gq106 w94 w93 r3.1 wa0).bind fun r4 =>
       kk r4.1 r4.2.1 r4.2.2) (
       cond (w9c == (4 : Int)) (
        (gq107 w93 r3.1 (IntKind.wrap .i64 (r3.1 + (1 : Int)))).bind fun r5 =>
        kk (0 : Int) w94 r5) (
        cond (w9c == (6 : Int)) (
         (gq67 a_N (0 : Int) (ByteArray.size (rdE u4 w93 (Int.toNat r3.1)).2.1 : Int)).bind fun r6 =>
         cond (!r6) (kk (4 : Int) w94 w93) (
          grd (gSl (0 : Int) a_N (ByteArray.size (rdE u4 w93 (Int.toNat r3.1)).2.1)) <|
          kk (0 : Int) w94 (setE u4 (setE u4 w93 (Int.toNat r3.1) ((rdE u4 w93 (Int.toNat r3.1)).1, (cut (rdE u4 w93 (Int.toNat r3.1)).2.1 (0 : Int) a_N, (rdE u4 w93 (Int.toNat r3.1)).2.2))) (Int.toNat r3.1) ((rdE u4 (setE u4 w93 (Int.toNat r3.1) ((rdE u4 w93 (Int.toNat r3.1)).1, (cut (rdE u4 w93 (Int.toNat r3.1)).2.1 (0 : Int) a_N, (rdE u4 w93 (Int.toNat r3.1)).2.2))) (Int.toNat r3.1)).1, ((rdE u4 (setE u4 w93 (Int.toNat r3.1) ((rdE u4 w93 (Int.toNat r3.1)).1, (cut (rdE u4 w93 (Int.toNat r3.1)).2.1 (0 : Int) a_N, (rdE u4 w93 (Int.toNat r3.1)).2.2))) (Int.toNat r3.1)).2.1, mn2 (rdE u4 w93 (Int.toNat r3.1)).2.2 a_N))))) (kk (0 : Int) w94 w93))))))))
theorem gq55.N (kk : Int → Int → List (El u4) → Option R) (w94 w93 w9c a_N w9d wa0 wa1 wa2) : gq55.F (fun y0 y1 y2 => (kk y0 y1 y2).bind g) w94 w93 w9c a_N w9d wa0 wa1 wa2 = (gq55.F kk w94 w93 w9c a_N w9d wa0 wa1 wa2).bind g := by
 simp only [gq55.F, u6, u9, uc, u7]
def gq55 (w94 : Int) (w93 : List (El u4)) (w9c : Int) (a_N : Int) (w9d : ByteArray) (wa0 : ByteArray) (wa1 : ByteArray) (wa2 : List Int) : Option (Int × Int × List (El u4)) := gq55.F (fun y0 y1 y2 => some (y0, y1, y2)) w94 w93 w9c a_N w9d wa0 wa1 wa2
def gq55.out : (Int × Int × List (El u4)) → CRes := fun a => ⟨encL SV.enc [.one (.int .i64)] (a.1, ()), [encL SC.enc [.int .i64, .own [] u4 true] (a.2.1, a.2.2, ()), encL SC.enc [] ()]⟩
def gq55.ps : List PS := [.ptr [none, some (u4, true)], .val [none, none, none, none, none, some ((.int .i64), false)]]
def gq55.sA : List SA := [.ptr [.int .i64, .own [] u4 true], .v (.agg [.int .i64, .int .i64, .str, .str, .str, .slv [] (.int .i64)])]
def gq55.fi : FI := FIs gq55.sA (Int × Int × List (El u4)) (fun t => gq55 t.1.1 t.1.2.1 t.2.1.1 t.2.1.2.1 t.2.1.2.2.1 t.2.1.2.2.2.1 t.2.1.2.2.2.2.1 t.2.1.2.2.2.2.2.1) gq55.out gq55.ps
def gq55.E : Env := ⟨tt, lkF [(67, gq67.fi), (76, gq76.fi), (104, gq104.fi), (105, gq105.fi), (106, gq106.fi), (107, gq107.fi)], 111, 1, [], []⟩
theorem gq55.hok (hE : EOk Tryz.prog (gq55.E)) : HintOk Tryz.prog gq55.E (u5 Tryz.f55) (.a) := HintOk.n1 (Q := True) (by kernel_rfl) trivial
theorem gq55.hE : EOk Tryz.prog (gq55.E) := EOk.of ttOk (⟨gq67.fok, ⟨gq76.fok, ⟨gq104.fok, ⟨gq105.fok, ⟨gq106.fok, ⟨gq107.fok, trivial⟩⟩⟩⟩⟩⟩)
theorem gq55.fok : FOk Tryz.prog 55 gq55.fi :=
 fokS (E := gq55.E) (wy := ⟨[[none]], [[none, some (u4, true)], []], []⟩) (h := (fun gs => .a)) (G := fun t g => gq55.F (fun y0 y1 y2 => g (y0, y1, y2)) t.1.1 t.1.2.1 t.2.1.1 t.2.1.2.1 t.2.1.2.2.1 t.2.1.2.2.2.1 t.2.1.2.2.2.2.1 t.2.1.2.2.2.2.2.1) (by kernel_rfl) gq55.hE Tryz.func55 (by kernel_rfl) rfl (Nat.le_refl _) (fun t => HintOk.n1 (by kernel_rfl) (gq55.hok gq55.hE)) (fun t g => gq55.N g (fun y0 y1 y2 => some (y0, y1, y2)) _ _ _ _ _ _ _ _) (fun t => by kernel_rfl)
theorem v52 : ∃ f : (ByteArray → ByteArray → ByteArray) × (ByteArray → ByteArray → Bool), f.1 = (fun s c => ⟨(Lib.trimS s.data.toList c.data.toList).toArray⟩) ∧ f.2 = (fun s c => decide (s.size ≤ 9223372036854775807) && (decide (c.size < 4294967281) && c.data.toList.all (fun b => decide (b.toNat < 128)))) := ⟨(_, _), rfl, rfl⟩
noncomputable def trimS : ByteArray → ByteArray → ByteArray := (Classical.choose v52).1
noncomputable def gTrim : ByteArray → ByteArray → Bool := (Classical.choose v52).2
theorem vdc (s c : ByteArray) : trimS s c = ⟨(Lib.trimS s.data.toList c.data.toList).toArray⟩ := congrFun (congrFun (Classical.choose_spec v52).1 s) c
theorem ve8 (s c : ByteArray) : gTrim s c = (decide (s.size ≤ 9223372036854775807) && (decide (c.size < 4294967281) && c.data.toList.all (fun b => decide (b.toNat < 128)))) := congrFun (congrFun (Classical.choose_spec v52).2 s) c
noncomputable def gq152.F {R : Type} (kk : ByteArray → Option R) (s : ByteArray) (c : ByteArray) : Option R := grd (gTrim s c) <| kk (trimS s c)
theorem vd3 : ∃ f : ByteArray → ByteArray → Option ByteArray, f = fun s n => gq152.F (fun y0 => some y0) s n := ⟨_, rfl⟩
noncomputable def gq152 : ByteArray → ByteArray → Option ByteArray := Classical.choose vd3
theorem vdd (s c : ByteArray) : gq152 s c = gq152.F (fun y0 => some y0) s c := congrFun (congrFun (Classical.choose_spec vd3) s) c
def gq152.out : (ByteArray) → CRes := fun a => ⟨encL SV.enc [.one (.str)] (a, ()), [encL SC.enc [] (), encL SC.enc [] ()]⟩
def gq152.ps : List PS := [.val [none], .val [none]]
def gq152.sA : List SA := [.v (.one (.str)), .v (.one (.str))]
noncomputable def gq152.fi : FI := FIs gq152.sA (ByteArray) (fun t => gq152 t.1 t.2.1) gq152.out gq152.ps
theorem gq152.fok : FOk Tryz.prog 152 gq152.fi := by
 refine w82 ⟨_, _, Tryz.func152, by kernel_rfl, rfl⟩ (by kernel_rfl) (fun a => [.str a]) (fun a => by kernel_rfl) (fun a => by kernel_rfl) (fun t a h w => ?_)
 obtain ⟨s, c, u⟩ := t
 have h' : grd (gTrim s c) (some (trimS s c)) = some a := (vdd s c).symm.trans h
 cases hg : gTrim s c with
 | false => rw [hg] at h'; cases h'
 | true =>
  rw [hg] at h'
  obtain rfl := Option.some.inj h'
  rw [ve8, Bool.and_eq_true, Bool.and_eq_true, decide_eq_true_iff, decide_eq_true_iff] at hg
  obtain ⟨h0, h1, h2⟩ := hg
  rw [vdc]
  exact Any.strings_Trim_laid Tryz.lays160 (by kernel_rfl) s c w h0 h1 (ascii_of_all h2)
def gq115.F {R : Type} (kk : Int → Option R) (name : ByteArray) : Option R :=
 cond ((ByteArray.size name : Int) != (3 : Int)) (kk (0 : Int)) (
  grd (gIx (0 : Int) (ByteArray.size name)) <|
  cond ((u21 name (0 : Int)) != (115 : Int)) (kk (0 : Int)) (
   grd (gSl (1 : Int) (ByteArray.size name : Int) (ByteArray.size name)) <|
   (gq152 (cut name (1 : Int) (ByteArray.size name : Int)) (⟨#[48, 49, 50, 51, 52, 53, 54, 55, 56, 57]⟩ : ByteArray)).bind fun r =>
   cond (!(sEq r ByteArray.empty)) (kk (0 : Int)) (
    grd (gIx (1 : Int) (ByteArray.size name)) <|
    grd (gIx (2 : Int) (ByteArray.size name)) <|
    kk (IntKind.wrap .i64 ((IntKind.wrap .i64 ((IntKind.wrap .i64 (IntKind.wrap .u8 ((u21 name (1 : Int)) - (48 : Int)))) * (10 : Int))) + (IntKind.wrap .i64 (IntKind.wrap .u8 ((u21 name (2 : Int)) - (48 : Int)))))))))
theorem gq115.N (kk : Int → Option R) (name) : gq115.F (fun y0 => (kk y0).bind g) name = (gq115.F kk name).bind g := by
 simp only [gq115.F, u6, u9, uc, u7]
def gq115 (name : ByteArray) : Option Int := gq115.F (fun y0 => some y0) name
def gq115.out : Int → CRes := fun a => ⟨encL SV.enc [.one (.int .i64)] (a, ()), [encL SC.enc [] ()]⟩
def gq115.ps : List PS := [.val [none]]
def gq115.sA : List SA := [.v (.one (.str))]
def gq115.fi : FI := FIs gq115.sA (Int) (fun t => gq115 t.1) gq115.out gq115.ps
def gq115.E : Env := ⟨tt, lkF [(152, gq152.fi)], 27, 0, [], []⟩
theorem gq115.hok (hE : EOk Tryz.prog (gq115.E)) : HintOk Tryz.prog gq115.E (u5 Tryz.f115) (.a) := HintOk.n1 (Q := True) (by kernel_rfl) trivial
theorem gq115.hE : EOk Tryz.prog (gq115.E) := EOk.of ttOk (⟨gq152.fok, trivial⟩)
theorem gq115.fok : FOk Tryz.prog 115 gq115.fi :=
 fokS (E := gq115.E) (wy := ⟨[[none]], [[]], []⟩) (h := (fun gs => .a)) (G := fun t g => gq115.F (fun y0 => g y0) t.1) (by kernel_rfl) gq115.hE Tryz.func115 (by kernel_rfl) rfl (Nat.le_refl _) (fun t => HintOk.n1 (by kernel_rfl) (gq115.hok gq115.hE)) (fun t g => gq115.N g (fun y0 => some y0) _) (fun t => by kernel_rfl)
def gq103.l1 {R : Type} (kke0 : Int → Option R) : Nat → ByteArray → Int → Int → Int → Option R
 | 0, _, _, _, _ => none
 | n + 1, s, n_, i, i1 =>
  cond (decide (i1 < i)) (
   grd (gSh (8 : Int)) <|
   grd (gIx i1 (ByteArray.size s)) <|
   gq103.l1 kke0 n s (IntKind.wrap .i64 ((iShl .i64 n_ (8 : Int)) + (IntKind.wrap .i64 (u21 s i1)))) i (IntKind.wrap .i64 (i1 + (1 : Int)))) (kke0 n_)
theorem gq103.l1_nat (kke0 : Int → Option R) : ∀ n s n_ i i1, gq103.l1 (fun y0 => (kke0 y0).bind g) n s n_ i i1 = (gq103.l1 kke0 n s n_ i i1).bind g := by
 intro n
 induction n with
 | zero => intros; rfl
 | succ n ih => intros; simp only [gq103.l1, u6, u9, uc, u7, ih]
def gq103.F {R : Type} (kk : Int → Option R) (s : ByteArray) : Option R :=
 gq103.l1 (fun n_ => kk n_) fuel s (0 : Int) (ByteArray.size s : Int) (0 : Int)
theorem gq103.N (kk : Int → Option R) (s) : gq103.F (fun y0 => (kk y0).bind g) s = (gq103.F kk s).bind g := by
 simp only [gq103.F, u6, u9, uc, u7, ← gq103.l1_nat]
def gq103 (s : ByteArray) : Option Int := gq103.F (fun y0 => some y0) s
def gq103.out : Int → CRes := fun a => ⟨encL SV.enc [.one (.int .i64)] (a, ()), [encL SC.enc [] ()]⟩
def gq103.ps : List PS := [.val [none]]
def gq103.sA : List SA := [.v (.one (.str))]
def gq103.fi : FI := FIs gq103.sA (Int) (fun t => gq103 t.1) gq103.out gq103.ps
def gq103.E : Env := ⟨tt, lkF [], 19, 0, [], []⟩
def gq103.sh1 : SK := ⟨[.v (.one (.str)), .v (.one (.int .i64)), .v (.one (.int .i64)), .v (.one (.int .i64))], []⟩
def gq103.sh1e0 : SK := ⟨[.v (.one (.int .i64))], []⟩
def gq103.ko1 : Ex → List u16 × List Nat
 | .nrm => ([], [])
 | .ret => ([], [])
 | .ext i => cond (Nat.beq i 0) ([], [3]) ([], [])
def gq103.G1 (n : Nat) (R : Type) (t : gq103.sh1.T) (K : Ex → Kp → Option R) : Option R := gq103.l1 (fun y0 => K (.ext 0) (SK.enc gq103.sh1e0 ((y0, ()), ()))) n t.1.1 t.1.2.1 t.1.2.2.1 t.1.2.2.2.1
def gq103.S1 : Sum := ⟨([], [0, 3, 6, 7]), sumF gq103.sh1 (gq103.G1 fuel), gq103.ko1⟩
theorem gq103.ok1 (hE : EOk Tryz.prog (gq103.E)) : u15 Tryz.prog gq103.E (cB (cR (cL (cR (cR (u5 Tryz.f103)))))) (gq103.S1) := by
 have hh : HintOk Tryz.prog gq103.E (cB (cB (cR (cL (cR (cR (u5 Tryz.f103))))))) (.a) := HintOk.n1 (Q := True) (by kernel_rfl) trivial
 have h := u2a (kin := ([], [0, 3, 6, 7])) (kout := gq103.ko1) (sh := gq103.sh1) (F := gq103.G1) (u1a (hE.gv _)) (by kernel_rfl) hh (fun _ _ _ => rfl) (fun n R t K => by kernel_rfl) fuel
 exact HintOk.n1 (c := (cB (cR (cL (cR (cR (u5 Tryz.f103))))))) (h := .s (gq103.S1)) (P := Tryz.prog) (E := gq103.E) (by kernel_rfl) h
theorem gq103.hok (hE : EOk Tryz.prog (gq103.E)) : HintOk Tryz.prog gq103.E (u5 Tryz.f103) (.n (.a) (.n (.a) (.n (.n (.a) (.b (.s (gq103.S1)))) (.a)))) := HintOk.n1 (Q := (True) ∧ ((True) ∧ (((True) ∧ (u15 Tryz.prog gq103.E (cB (cR (cL (cR (cR (u5 Tryz.f103)))))) (gq103.S1))) ∧ (True)))) (by kernel_rfl) ⟨trivial, ⟨trivial, ⟨⟨trivial, (gq103.ok1 hE)⟩, trivial⟩⟩⟩
theorem gq103.hE : EOk Tryz.prog (gq103.E) := EOk.of ttOk (trivial)
theorem gq103.fok : FOk Tryz.prog 103 gq103.fi :=
 fokS (E := gq103.E) (wy := ⟨[[none]], [[]], []⟩) (h := (fun gs => .n (.a) (.n (.a) (.n (.n (.a) (.b (.s (gq103.S1)))) (.a))))) (G := fun t g => gq103.F (fun y0 => g y0) t.1) (by kernel_rfl) gq103.hE Tryz.func103 (by kernel_rfl) rfl (Nat.le_refl _) (fun t => HintOk.n1 (by kernel_rfl) (gq103.hok gq103.hE)) (fun t g => gq103.N g (fun y0 => some y0) _) (fun t => by kernel_rfl)
def gq137.l1 {R : Type} (kke0 : List Int → Option R) : Nat → Int → Int → List Int → Option R
 | 0, _, _, _ => none
 | n + 1, n_, i, out =>
  cond (decide (i ≥ (0 : Int))) (
   grd (gIx i (List.length out)) <|
   grd (gSh (8 : Int)) <|
   gq137.l1 kke0 n (iShr .i64 n_ (8 : Int)) (IntKind.wrap .i64 (i - (1 : Int))) (setE (.int .u8 : Kd) out (Int.toNat i) (IntKind.wrap .u8 n_))) (kke0 out)
theorem gq137.l1_nat (kke0 : List Int → Option R) : ∀ n n_ i out, gq137.l1 (fun y0 => (kke0 y0).bind g) n n_ i out = (gq137.l1 kke0 n n_ i out).bind g := by
 intro n
 induction n with
 | zero => intros; rfl
 | succ n ih => intros; simp only [gq137.l1, u6, u9, uc, u7, ih]
def gq137.F {R : Type} (kk : ByteArray → Option R) (n_ : Int) (many : Int) : Option R :=
 grd (gMk many many 1) <|
 gq137.l1 (fun out => kk (strL out)) fuel n_ (IntKind.wrap .i64 (many - (1 : Int))) (List.replicate (Int.toNat many) (0 : Int))
theorem gq137.N (kk : ByteArray → Option R) (n_ many) : gq137.F (fun y0 => (kk y0).bind g) n_ many = (gq137.F kk n_ many).bind g := by
 simp only [gq137.F, u6, u9, uc, u7, ← gq137.l1_nat]
def gq137 (n_ : Int) (many : Int) : Option ByteArray := gq137.F (fun y0 => some y0) n_ many
def gq137.out : ByteArray → CRes := fun a => ⟨encL SV.enc [.one (.str)] (a, ()), [encL SC.enc [] (), encL SC.enc [] ()]⟩
def gq137.ps : List PS := [.val [none], .val [none]]
def gq137.sA : List SA := [.v (.one (.int .i64)), .v (.one (.int .i64))]
def gq137.fi : FI := FIs gq137.sA (ByteArray) (fun t => gq137 t.1 t.2.1) gq137.out gq137.ps
def gq137.E : Env := ⟨tt, lkF [], 24, 0, [], []⟩
def gq137.sh1 : SK := ⟨[.v (.one (.int .i64)), .v (.one (.slo 0)), .v (.one (.int .i64))], [.arr (.int .u8) [] true]⟩
def gq137.sh1e0 : SK := ⟨[.v (.one (.slo 0))], [.arr (.int .u8) [] true]⟩
def gq137.ko1 : Ex → List u16 × List Nat
 | .nrm => ([], [])
 | .ret => ([], [])
 | .ext i => cond (Nat.beq i 0) ([], [5]) ([], [])
def gq137.G1 (n : Nat) (R : Type) (t : gq137.sh1.T) (K : Ex → Kp → Option R) : Option R := gq137.l1 (fun y0 => K (.ext 0) (SK.enc gq137.sh1e0 (((), ()), (y0, ())))) n t.1.1 t.1.2.2.1 t.2.1
def gq137.S1 : Sum := ⟨([], [0, 5, 6]), sumF gq137.sh1 (gq137.G1 fuel), gq137.ko1⟩
theorem gq137.ok1 (hE : EOk Tryz.prog (gq137.E)) : u15 Tryz.prog gq137.E (cB (cR (cL (cR (cR (u5 Tryz.f137)))))) (gq137.S1) := by
 have hh : HintOk Tryz.prog gq137.E (cB (cB (cR (cL (cR (cR (u5 Tryz.f137))))))) (.a) := HintOk.n1 (Q := True) (by kernel_rfl) trivial
 have h := u2a (kin := ([], [0, 5, 6])) (kout := gq137.ko1) (sh := gq137.sh1) (F := gq137.G1) (u1a (hE.gv _)) (by kernel_rfl) hh (fun _ _ _ => rfl) (fun n R t K => by kernel_rfl) fuel
 exact HintOk.n1 (c := (cB (cR (cL (cR (cR (u5 Tryz.f137))))))) (h := .s (gq137.S1)) (P := Tryz.prog) (E := gq137.E) (by kernel_rfl) h
theorem gq137.hok (hE : EOk Tryz.prog (gq137.E)) : HintOk Tryz.prog gq137.E (u5 Tryz.f137) (.n (.a) (.n (.a) (.n (.n (.a) (.b (.s (gq137.S1)))) (.a)))) := HintOk.n1 (Q := (True) ∧ ((True) ∧ (((True) ∧ (u15 Tryz.prog gq137.E (cB (cR (cL (cR (cR (u5 Tryz.f137)))))) (gq137.S1))) ∧ (True)))) (by kernel_rfl) ⟨trivial, ⟨trivial, ⟨⟨trivial, (gq137.ok1 hE)⟩, trivial⟩⟩⟩
theorem gq137.hE : EOk Tryz.prog (gq137.E) := EOk.of ttOk (trivial)
theorem gq137.fok : FOk Tryz.prog 137 gq137.fi :=
 fokS (E := gq137.E) (wy := ⟨[[none]], [[], []], []⟩) (h := (fun gs => .n (.a) (.n (.a) (.n (.n (.a) (.b (.s (gq137.S1)))) (.a))))) (G := fun t g => gq137.F (fun y0 => g y0) t.1 t.2.1) (by kernel_rfl) gq137.hE Tryz.func137 (by kernel_rfl) rfl (Nat.le_refl _) (fun t => HintOk.n1 (by kernel_rfl) (gq137.hok gq137.hE)) (fun t g => gq137.N g (fun y0 => some y0) _ _) (fun t => by kernel_rfl)
def gq176.l1 {R : Type} (kke2 : ByteArray → Int → Int → Int → Option R) : Nat → ByteArray → Int → Int → Int → Int → Option R
 | 0, _, _, _, _, _ => none
 | n + 1, s, sum, i, i1, i2 =>
  cond (decide (i2 < (8 : Int))) (
   grd (gSh (1 : Int)) <|
   cond ((iAnd .u32 sum (1 : Int)) == (1 : Int)) (
    gq176.l1 kke2 n s (iXor .u32 (iShr .u32 sum (1 : Int)) (3988292384 : Int)) i i1 (IntKind.wrap .i64 (i2 + (1 : Int)))) (gq176.l1 kke2 n s (iShr .u32 sum (1 : Int)) i i1 (IntKind.wrap .i64 (i2 + (1 : Int))))) (kke2 s sum i i1)
theorem gq176.l1_nat (kke2 : ByteArray → Int → Int → Int → Option R) : ∀ n s sum i i1 i2, gq176.l1 (fun y0 y1 y2 y3 => (kke2 y0 y1 y2 y3).bind g) n s sum i i1 i2 = (gq176.l1 kke2 n s sum i i1 i2).bind g := by
 intro n
 induction n with
 | zero => intros; rfl
 | succ n ih => intros; simp only [gq176.l1, u6, u9, uc, u7, ih]
def gq176.l2 {R : Type} (kke0 : Int → Option R) : Nat → ByteArray → Int → Int → Int → Option R
 | 0, _, _, _, _ => none
 | n + 1, s, sum, i, i1 =>
  cond (decide (i1 < i)) (
   grd (gIx i1 (ByteArray.size s)) <|
   gq176.l1 (fun s1 sum1 i2 i3 => gq176.l2 kke0 n s1 sum1 i2 (IntKind.wrap .i64 (i3 + (1 : Int)))) fuel s (iXor .u32 sum (IntKind.wrap .u32 (u21 s i1))) i i1 (0 : Int)) (kke0 sum)
theorem gq176.l2_nat (kke0 : Int → Option R) : ∀ n s sum i i1, gq176.l2 (fun y0 => (kke0 y0).bind g) n s sum i i1 = (gq176.l2 kke0 n s sum i i1).bind g := by
 intro n
 induction n with
 | zero => intros; rfl
 | succ n ih => intros; simp only [gq176.l2, u6, u9, uc, u7, ← gq176.l1_nat, ih]
def gq176.F {R : Type} (kk : Int → Option R) (s : ByteArray) : Option R :=
 gq176.l2 (fun sum => kk (IntKind.wrap .i64 (iXor .u32 (IntKind.max .u32) sum))) fuel s (4294967295 : Int) (ByteArray.size s : Int) (0 : Int)
theorem gq176.N (kk : Int → Option R) (s) : gq176.F (fun y0 => (kk y0).bind g) s = (gq176.F kk s).bind g := by
 simp only [gq176.F, u6, u9, uc, u7, ← gq176.l2_nat]
def gq176 (s : ByteArray) : Option Int := gq176.F (fun y0 => some y0) s
def gq176.out : Int → CRes := fun a => ⟨encL SV.enc [.one (.int .i64)] (a, ()), [encL SC.enc [] ()]⟩
def gq176.ps : List PS := [.val [none]]
def gq176.sA : List SA := [.v (.one (.str))]
def gq176.fi : FI := FIs gq176.sA (Int) (fun t => gq176 t.1) gq176.out gq176.ps
def gq176.E : Env := ⟨tt, lkF [], 32, 0, [], []⟩
def gq176.sh1 : SK := ⟨[.v (.one (.str)), .v (.one (.int .u32)), .v (.one (.int .i64)), .v (.one (.int .i64)), .v (.one (.int .i64))], []⟩
def gq176.sh1e2 : SK := ⟨[.v (.one (.str)), .v (.one (.int .u32)), .v (.one (.int .i64)), .v (.one (.int .i64))], []⟩
def gq176.ko1 : Ex → List u16 × List Nat
 | .nrm => ([], [])
 | .ret => ([], [])
 | .ext i => cond (Nat.beq i 2) ([], [0, 3, 7, 8]) ([], [])
def gq176.G1 (n : Nat) (R : Type) (t : gq176.sh1.T) (K : Ex → Kp → Option R) : Option R := gq176.l1 (fun y0 y1 y2 y3 => K (.ext 2) (SK.enc gq176.sh1e2 ((y0, y1, y2, y3, ()), ()))) n t.1.1 t.1.2.1 t.1.2.2.1 t.1.2.2.2.1 t.1.2.2.2.2.1
def gq176.S1 : Sum := ⟨([], [0, 3, 7, 8, 17]), sumF gq176.sh1 (gq176.G1 fuel), gq176.ko1⟩
theorem gq176.ok1 (hE : EOk Tryz.prog (gq176.E)) : u15 Tryz.prog gq176.E (cB (cR (cR (cR (cB (cL (cR (cR (cB (cB (cR (cL (cR (cR (u5 Tryz.f176))))))))))))))) (gq176.S1) := by
 have hh : HintOk Tryz.prog gq176.E (cB (cB (cR (cR (cR (cB (cL (cR (cR (cB (cB (cR (cL (cR (cR (u5 Tryz.f176)))))))))))))))) (.a) := HintOk.n1 (Q := True) (by kernel_rfl) trivial
 have h := u2a (kin := ([], [0, 3, 7, 8, 17])) (kout := gq176.ko1) (sh := gq176.sh1) (F := gq176.G1) (u1a (hE.gv _)) (by kernel_rfl) hh (fun _ _ _ => rfl) (fun n R t K => by kernel_rfl) fuel
 exact HintOk.n1 (c := (cB (cR (cR (cR (cB (cL (cR (cR (cB (cB (cR (cL (cR (cR (u5 Tryz.f176)))))))))))))))) (h := .s (gq176.S1)) (P := Tryz.prog) (E := gq176.E) (by kernel_rfl) h
def gq176.sh2 : SK := ⟨[.v (.one (.str)), .v (.one (.int .u32)), .v (.one (.int .i64)), .v (.one (.int .i64))], []⟩
def gq176.sh2e0 : SK := ⟨[.v (.one (.int .u32))], []⟩
def gq176.ko2 : Ex → List u16 × List Nat
 | .nrm => ([], [])
 | .ret => ([], [])
 | .ext i => cond (Nat.beq i 0) ([], [3]) ([], [])
def gq176.G2 (n : Nat) (R : Type) (t : gq176.sh2.T) (K : Ex → Kp → Option R) : Option R := gq176.l2 (fun y0 => K (.ext 0) (SK.enc gq176.sh2e0 ((y0, ()), ()))) n t.1.1 t.1.2.1 t.1.2.2.1 t.1.2.2.2.1
def gq176.S2 : Sum := ⟨([], [0, 3, 7, 8]), sumF gq176.sh2 (gq176.G2 fuel), gq176.ko2⟩
theorem gq176.ok2 (hE : EOk Tryz.prog (gq176.E)) : u15 Tryz.prog gq176.E (cB (cR (cL (cR (cR (u5 Tryz.f176)))))) (gq176.S2) := by
 have hh : HintOk Tryz.prog gq176.E (cB (cB (cR (cL (cR (cR (u5 Tryz.f176))))))) (.n (.a) (.n (.a) (.n (.b (.n (.a) (.n (.a) (.n (.a) (.b (.s (gq176.S1))))))) (.a)))) := HintOk.n1 (Q := (True) ∧ ((True) ∧ (((True) ∧ ((True) ∧ ((True) ∧ (u15 Tryz.prog gq176.E (cB (cR (cR (cR (cB (cL (cR (cR (cB (cB (cR (cL (cR (cR (u5 Tryz.f176))))))))))))))) (gq176.S1))))) ∧ (True)))) (by kernel_rfl) ⟨trivial, ⟨trivial, ⟨⟨trivial, ⟨trivial, ⟨trivial, (gq176.ok1 hE)⟩⟩⟩, trivial⟩⟩⟩
 have h := u2a (kin := ([], [0, 3, 7, 8])) (kout := gq176.ko2) (sh := gq176.sh2) (F := gq176.G2) (u1a (hE.gv _)) (by kernel_rfl) hh (fun _ _ _ => rfl) (fun n R t K => by kernel_rfl) fuel
 exact HintOk.n1 (c := (cB (cR (cL (cR (cR (u5 Tryz.f176))))))) (h := .s (gq176.S2)) (P := Tryz.prog) (E := gq176.E) (by kernel_rfl) h
theorem gq176.hok (hE : EOk Tryz.prog (gq176.E)) : HintOk Tryz.prog gq176.E (u5 Tryz.f176) (.n (.a) (.n (.a) (.n (.n (.a) (.b (.s (gq176.S2)))) (.a)))) := HintOk.n1 (Q := (True) ∧ ((True) ∧ (((True) ∧ (u15 Tryz.prog gq176.E (cB (cR (cL (cR (cR (u5 Tryz.f176)))))) (gq176.S2))) ∧ (True)))) (by kernel_rfl) ⟨trivial, ⟨trivial, ⟨⟨trivial, (gq176.ok2 hE)⟩, trivial⟩⟩⟩
theorem gq176.hE : EOk Tryz.prog (gq176.E) := EOk.of ttOk (trivial)
theorem gq176.fok : FOk Tryz.prog 176 gq176.fi :=
 fokS (E := gq176.E) (wy := ⟨[[none]], [[]], []⟩) (h := (fun gs => .n (.a) (.n (.a) (.n (.n (.a) (.b (.s (gq176.S2)))) (.a))))) (G := fun t g => gq176.F (fun y0 => g y0) t.1) (by kernel_rfl) gq176.hE Tryz.func176 (by kernel_rfl) rfl (Nat.le_refl _) (fun t => HintOk.n1 (by kernel_rfl) (gq176.hok gq176.hE)) (fun t g => gq176.N g (fun y0 => some y0) _) (fun t => by kernel_rfl)
def gq155.F {R : Type} (kk : ByteArray → Option R) (data : ByteArray) : Option R :=
 (gq137 (ByteArray.size data : Int) (2 : Int)).bind fun r =>
 grd (gCat r data) <|
 (gq176 (r ++ data)).bind fun r1 =>
 (gq137 r1 (4 : Int)).bind fun r2 =>
 grd (gCat r r2) <|
 grd (gCat (r ++ r2) data) <|
 kk ((r ++ r2) ++ data)
theorem gq155.N (kk : ByteArray → Option R) (data) : gq155.F (fun y0 => (kk y0).bind g) data = (gq155.F kk data).bind g := by
 simp only [gq155.F, u6, u9, uc, u7]
def gq155 (data : ByteArray) : Option ByteArray := gq155.F (fun y0 => some y0) data
def gq155.out : ByteArray → CRes := fun a => ⟨encL SV.enc [.one (.str)] (a, ()), [encL SC.enc [] ()]⟩
def gq155.ps : List PS := [.val [none]]
def gq155.sA : List SA := [.v (.one (.str))]
def gq155.fi : FI := FIs gq155.sA (ByteArray) (fun t => gq155 t.1) gq155.out gq155.ps
def gq155.E : Env := ⟨tt, lkF [(137, gq137.fi), (176, gq176.fi)], 16, 0, [], []⟩
theorem gq155.hok (hE : EOk Tryz.prog (gq155.E)) : HintOk Tryz.prog gq155.E (u5 Tryz.f155) (.a) := HintOk.n1 (Q := True) (by kernel_rfl) trivial
theorem gq155.hE : EOk Tryz.prog (gq155.E) := EOk.of ttOk (⟨gq137.fok, ⟨gq176.fok, trivial⟩⟩)
theorem gq155.fok : FOk Tryz.prog 155 gq155.fi :=
 fokS (E := gq155.E) (wy := ⟨[[none]], [[]], []⟩) (h := (fun gs => .a)) (G := fun t g => gq155.F (fun y0 => g y0) t.1) (by kernel_rfl) gq155.hE Tryz.func155 (by kernel_rfl) rfl (Nat.le_refl _) (fun t => HintOk.n1 (by kernel_rfl) (gq155.hok gq155.hE)) (fun t g => gq155.N g (fun y0 => some y0) _) (fun t => by kernel_rfl)
def gq148.F {R : Type} (kk : ByteArray → Int → Option R) (s : ByteArray) : Option R :=
 cond (decide ((ByteArray.size s : Int) < (6 : Int))) (kk ByteArray.empty (16 : Int)) (
  grd (gSl (0 : Int) (2 : Int) (ByteArray.size s)) <|
  (gq103 (cut s (0 : Int) (2 : Int))).bind fun r =>
  (gq67 r (1 : Int) (200 : Int)).bind fun r1 =>
  cond (!r1) (kk ByteArray.empty (8 : Int)) (
   cond (decide ((ByteArray.size s : Int) < (IntKind.wrap .i64 ((6 : Int) + r)))) (kk ByteArray.empty (16 : Int)) (
    grd (gSl (6 : Int) (IntKind.wrap .i64 ((6 : Int) + r)) (ByteArray.size s)) <|
    (gq155 (cut s (6 : Int) (IntKind.wrap .i64 ((6 : Int) + r)))).bind fun r2 =>
    grd (gSl (0 : Int) (IntKind.wrap .i64 ((6 : Int) + r)) (ByteArray.size s)) <|
    cond (!(sEq r2 (cut s (0 : Int) (IntKind.wrap .i64 ((6 : Int) + r))))) (kk ByteArray.empty (8 : Int)) (
     grd (gSl (6 : Int) (IntKind.wrap .i64 ((6 : Int) + r)) (ByteArray.size s)) <|
     kk (cut s (6 : Int) (IntKind.wrap .i64 ((6 : Int) + r))) (0 : Int)))))
theorem gq148.N (kk : ByteArray → Int → Option R) (s) : gq148.F (fun y0 y1 => (kk y0 y1).bind g) s = (gq148.F kk s).bind g := by
 simp only [gq148.F, u6, u9, uc, u7]
def gq148 (s : ByteArray) : Option (ByteArray × Int) := gq148.F (fun y0 y1 => some (y0, y1)) s
def gq148.out : (ByteArray × Int) → CRes := fun a => ⟨encL SV.enc [.one (.str), .one (.int .i64)] (a.1, a.2, ()), [encL SC.enc [] ()]⟩
def gq148.ps : List PS := [.val [none]]
def gq148.sA : List SA := [.v (.one (.str))]
def gq148.fi : FI := FIs gq148.sA (ByteArray × Int) (fun t => gq148 t.1) gq148.out gq148.ps
def gq148.E : Env := ⟨tt, lkF [(67, gq67.fi), (103, gq103.fi), (155, gq155.fi)], 36, 0, [], []⟩
theorem gq148.hok (hE : EOk Tryz.prog (gq148.E)) : HintOk Tryz.prog gq148.E (u5 Tryz.f148) (.a) := HintOk.n1 (Q := True) (by kernel_rfl) trivial
theorem gq148.hE : EOk Tryz.prog (gq148.E) := EOk.of ttOk (⟨gq67.fok, ⟨gq103.fok, ⟨gq155.fok, trivial⟩⟩⟩)
theorem gq148.fok : FOk Tryz.prog 148 gq148.fi :=
 fokS (E := gq148.E) (wy := ⟨[[none], [none]], [[]], []⟩) (h := (fun gs => .a)) (G := fun t g => gq148.F (fun y0 y1 => g (y0, y1)) t.1) (by kernel_rfl) gq148.hE Tryz.func148 (by kernel_rfl) rfl (Nat.le_refl _) (fun t => HintOk.n1 (by kernel_rfl) (gq148.hok gq148.hE)) (fun t g => gq148.N g (fun y0 y1 => some (y0, y1)) _) (fun t => by kernel_rfl)
def gq102.l1 {R : Type} (kke0 : Int → List ByteArray → Option R) (kkr : Int → Int → List ByteArray → Option R) : Nat → ByteArray → Int → List ByteArray → Option R
 | 0, _, _, _ => none
 | n + 1, s, used, out =>
  cond (decide (used < (ByteArray.size s : Int))) (
   grd (gSl used (ByteArray.size s : Int) (ByteArray.size s)) <|
   (gq148 (cut s used (ByteArray.size s : Int))).bind fun r =>
   cond (r.2 != (0 : Int)) (kkr used r.2 out) (
    grd (gRm (((List.length out) + (List.length [r.1])) * 16)) <|
    gq102.l1 kke0 kkr n s (IntKind.wrap .i64 ((IntKind.wrap .i64 (used + (6 : Int))) + (ByteArray.size r.1 : Int))) (out ++ [r.1]))) (kke0 used out)
theorem gq102.l1_nat (kke0 : Int → List ByteArray → Option R) (kkr : Int → Int → List ByteArray → Option R) : ∀ n s used out, gq102.l1 (fun y0 y1 => (kke0 y0 y1).bind g) (fun y0 y1 y2 => (kkr y0 y1 y2).bind g) n s used out = (gq102.l1 kke0 kkr n s used out).bind g := by
 intro n
 induction n with
 | zero => intros; rfl
 | succ n ih => intros; simp only [gq102.l1, u6, u9, uc, u7, ih]
def gq102.F {R : Type} (kk : List ByteArray → Int → Int → Option R) (s : ByteArray) : Option R :=
 gq102.l1 (fun used out => kk out used (0 : Int)) (fun i i1 l => kk l i i1) fuel s (0 : Int) ([] : List ByteArray)
theorem gq102.N (kk : List ByteArray → Int → Int → Option R) (s) : gq102.F (fun y0 y1 y2 => (kk y0 y1 y2).bind g) s = (gq102.F kk s).bind g := by
 simp only [gq102.F, u6, u9, uc, u7, ← gq102.l1_nat]
def gq102 (s : ByteArray) : Option (List ByteArray × Int × Int) := gq102.F (fun y0 y1 y2 => some (y0, y1, y2)) s
def gq102.out : (List ByteArray × Int × Int) → CRes := fun a => ⟨encL SV.enc [.one (.own [] .str true), .one (.int .i64), .one (.int .i64)] (a.1, a.2.1, a.2.2, ()), [encL SC.enc [] ()]⟩
def gq102.ps : List PS := [.val [none]]
def gq102.sA : List SA := [.v (.one (.str))]
def gq102.fi : FI := FIs gq102.sA (List ByteArray × Int × Int) (fun t => gq102 t.1) gq102.out gq102.ps
def gq102.E : Env := ⟨tt, lkF [(148, gq148.fi)], 37, 0, [], []⟩
def gq102.sh1 : SK := ⟨[.v (.one (.str)), .v (.one (.slo 0)), .v (.one (.int .i64))], [.arr .str [] true]⟩
def gq102.sh1e0 : SK := ⟨[.v (.one (.slo 0)), .v (.one (.int .i64))], [.arr .str [] true]⟩
def gq102.sh1r : SK := ⟨[.v (.one (.slo 0)), .v (.one (.int .i64)), .v (.one (.int .i64))], [.arr .str [] true]⟩
def gq102.ko1 : Ex → List u16 × List Nat
 | .nrm => ([], [])
 | .ret => ([], [2, 3, 4])
 | .ext i => cond (Nat.beq i 0) ([], [5, 6]) ([], [])
def gq102.G1 (n : Nat) (R : Type) (t : gq102.sh1.T) (K : Ex → Kp → Option R) : Option R := gq102.l1 (fun y0 y1 => K (.ext 0) (SK.enc gq102.sh1e0 (((), y0, ()), (y1, ())))) (fun y0 y1 y2 => K .ret (SK.enc gq102.sh1r (((), y0, y1, ()), (y2, ())))) n t.1.1 t.1.2.2.1 t.2.1
def gq102.S1 : Sum := ⟨([], [0, 5, 6]), sumF gq102.sh1 (gq102.G1 fuel), gq102.ko1⟩
theorem gq102.ok1 (hE : EOk Tryz.prog (gq102.E)) : u15 Tryz.prog gq102.E (cB (cL (cR (cR (u5 Tryz.f102))))) (gq102.S1) := by
 have hh : HintOk Tryz.prog gq102.E (cB (cB (cL (cR (cR (u5 Tryz.f102)))))) (.a) := HintOk.n1 (Q := True) (by kernel_rfl) trivial
 have h := u2a (kin := ([], [0, 5, 6])) (kout := gq102.ko1) (sh := gq102.sh1) (F := gq102.G1) (u1a (hE.gv _)) (by kernel_rfl) hh (fun _ _ _ => rfl) (fun n R t K => by kernel_rfl) fuel
 exact HintOk.n1 (c := (cB (cL (cR (cR (u5 Tryz.f102)))))) (h := .s (gq102.S1)) (P := Tryz.prog) (E := gq102.E) (by kernel_rfl) h
theorem gq102.hok (hE : EOk Tryz.prog (gq102.E)) : HintOk Tryz.prog gq102.E (u5 Tryz.f102) (.n (.a) (.n (.a) (.n (.b (.s (gq102.S1))) (.a)))) := HintOk.n1 (Q := (True) ∧ ((True) ∧ ((u15 Tryz.prog gq102.E (cB (cL (cR (cR (u5 Tryz.f102))))) (gq102.S1)) ∧ (True)))) (by kernel_rfl) ⟨trivial, ⟨trivial, ⟨(gq102.ok1 hE), trivial⟩⟩⟩
theorem gq102.hE : EOk Tryz.prog (gq102.E) := EOk.of ttOk (⟨gq148.fok, trivial⟩)
theorem gq102.fok : FOk Tryz.prog 102 gq102.fi :=
 fokS (E := gq102.E) (wy := ⟨[[some (.str, true)], [none], [none]], [[]], []⟩) (h := (fun gs => .n (.a) (.n (.a) (.n (.b (.s (gq102.S1))) (.a))))) (G := fun t g => gq102.F (fun y0 y1 y2 => g (y0, y1, y2)) t.1) (by kernel_rfl) gq102.hE Tryz.func102 (by kernel_rfl) rfl (Nat.le_refl _) (fun t => HintOk.n1 (by kernel_rfl) (gq102.hok gq102.hE)) (fun t g => gq102.N g (fun y0 y1 y2 => some (y0, y1, y2)) _) (fun t => by kernel_rfl)
def gq153.F {R : Type} (kk : Int → Option R) (wa3 : Int) (wa4 : List ByteArray) (w9e : List ByteArray) (wa5 : Int) : Option R :=
 kk (IntKind.wrap .i64 (wa3 + (List.length wa4 : Int)))
theorem gq153.N (kk : Int → Option R) (wa3 wa4 w9e wa5) : gq153.F (fun y0 => (kk y0).bind g) wa3 wa4 w9e wa5 = (gq153.F kk wa3 wa4 w9e wa5).bind g := by
 simp only [gq153.F, u6, u9, uc, u7]
def gq153 (wa3 : Int) (wa4 : List ByteArray) (w9e : List ByteArray) (wa5 : Int) : Option Int := gq153.F (fun y0 => some y0) wa3 wa4 w9e wa5
def gq153.out : Int → CRes := fun a => ⟨encL SV.enc [.one (.int .i64)] (a, ()), [encL SC.enc [] ()]⟩
def gq153.ps : List PS := [.val [none, some (.str, false), some (.str, false), none]]
def gq153.sA : List SA := [.v (.agg [.int .i64, .slv [] .str, .slv [] .str, .int .i64])]
def gq153.fi : FI := FIs gq153.sA (Int) (fun t => gq153 t.1.1 t.1.2.1 t.1.2.2.1 t.1.2.2.2.1) gq153.out gq153.ps
def gq153.E : Env := ⟨tt, lkF [], 9, 0, [], []⟩
theorem gq153.hok (hE : EOk Tryz.prog (gq153.E)) : HintOk Tryz.prog gq153.E (u5 Tryz.f153) (.a) := HintOk.n1 (Q := True) (by kernel_rfl) trivial
theorem gq153.hE : EOk Tryz.prog (gq153.E) := EOk.of ttOk (trivial)
theorem gq153.fok : FOk Tryz.prog 153 gq153.fi :=
 fokS (E := gq153.E) (wy := ⟨[[none]], [[]], []⟩) (h := (fun gs => .a)) (G := fun t g => gq153.F (fun y0 => g y0) t.1.1 t.1.2.1 t.1.2.2.1 t.1.2.2.2.1) (by kernel_rfl) gq153.hE Tryz.func153 (by kernel_rfl) rfl (Nat.le_refl _) (fun t => HintOk.n1 (by kernel_rfl) (gq153.hok gq153.hE)) (fun t g => gq153.N g (fun y0 => some y0) _ _ _ _) (fun t => by kernel_rfl)
def gq116.j1 {R : Type} (kkn : Bool → Int → Int → Bool → Int → Int → Int → ByteArray → ByteArray → Int → List ByteArray → List ByteArray → List ByteArray → Option R) (isLast : Bool) (used : Int) (code : Int) (u3a : Int) (r : Int) (r1 : Int) (r2 : Int) (f : ByteArray) (f1 : ByteArray) (f2 : Int) (frames : List ByteArray) (l : List ByteArray) (l1 : List ByteArray) : Option R :=
 cond (code != (0 : Int)) (
  cond (isLast) (kkn isLast used u3a (!(code == (16 : Int))) r r1 r2 f f1 f2 frames l l1) (kkn isLast used u3a true r r1 r2 f f1 f2 frames l l1)) (kkn isLast used u3a false r r1 r2 f f1 f2 frames l l1)
theorem gq116.j1_nat (kkn : Bool → Int → Int → Bool → Int → Int → Int → ByteArray → ByteArray → Int → List ByteArray → List ByteArray → List ByteArray → Option R) (isLast used code u3a r r1 r2 f f1 f2 frames l l1) : gq116.j1 (fun y0 y1 y2 y3 y4 y5 y6 y7 y8 y9 y10 y11 y12 => (kkn y0 y1 y2 y3 y4 y5 y6 y7 y8 y9 y10 y11 y12).bind g) isLast used code u3a r r1 r2 f f1 f2 frames l l1 = (gq116.j1 kkn isLast used code u3a r r1 r2 f f1 f2 frames l l1).bind g := by
 simp only [gq116.j1, u6, u9, uc, u7]
def gq116.j2 {R : Type} (kkn : Int → Int → Int → Int → Int → ByteArray → ByteArray → Int → List ByteArray → List ByteArray → List ByteArray → Option R) (kkr : Int → Int → Int → Int → List ByteArray → List ByteArray → Option R) (isLast : Bool) (used : Int) (code : Int) (u3a : Int) (r : Int) (r1 : Int) (r2 : Int) (f : ByteArray) (f1 : ByteArray) (f2 : Int) (frames : List ByteArray) (l : List ByteArray) (l1 : List ByteArray) : Option R :=
 gq116.j1 (fun isLast1 used1 number1 b r3 r4 r5 f3 f4 f5 frames1 l2 l3 =>
  cond (b) (kkr (8 : Int) r3 r4 r5 l2 l3) (
   cond (decide (r5 > (0 : Int))) (
    cond (number1 != (IntKind.wrap .i64 (r5 + (1 : Int)))) (kkr (3 : Int) r3 r4 r5 l2 l3) (
     cond ((List.length frames1 : Int) == (0 : Int)) (
      cond (!isLast1) (kkr (3 : Int) r3 r4 r5 l2 l3) (kkn used1 number1 r3 r4 r5 f3 f4 f5 frames1 l2 l3)) (kkn used1 number1 r3 r4 r5 f3 f4 f5 frames1 l2 l3))) (
    cond ((List.length frames1 : Int) == (0 : Int)) (
     cond (!isLast1) (kkr (3 : Int) r3 r4 r5 l2 l3) (kkn used1 number1 r3 r4 r5 f3 f4 f5 frames1 l2 l3)) (kkn used1 number1 r3 r4 r5 f3 f4 f5 frames1 l2 l3)))) isLast used code u3a r r1 r2 f f1 f2 frames l l1
theorem gq116.j2_nat (kkn : Int → Int → Int → Int → Int → ByteArray → ByteArray → Int → List ByteArray → List ByteArray → List ByteArray → Option R) (kkr : Int → Int → Int → Int → List ByteArray → List ByteArray → Option R) (isLast used code u3a r r1 r2 f f1 f2 frames l l1) : gq116.j2 (fun y0 y1 y2 y3 y4 y5 y6 y7 y8 y9 y10 => (kkn y0 y1 y2 y3 y4 y5 y6 y7 y8 y9 y10).bind g) (fun y0 y1 y2 y3 y4 y5 => (kkr y0 y1 y2 y3 y4 y5).bind g) isLast used code u3a r r1 r2 f f1 f2 frames l l1 = (gq116.j2 kkn kkr isLast used code u3a r r1 r2 f f1 f2 frames l l1).bind g := by
 simp only [gq116.j2, u6, u9, uc, u7, ← gq116.j1_nat]
def gq116.j3 {R : Type} (kkn : Int → Int → Int → Int → List ByteArray → List ByteArray → List ByteArray → Option R) (kkr : Int → Int → Int → Int → List ByteArray → List ByteArray → Option R) (first : Int) (r : Int) (r1 : Int) (r2 : Int) (frames : List ByteArray) (l : List ByteArray) (l1 : List ByteArray) : Option R :=
 grd (gIx (0 : Int) (List.length frames)) <|
 cond ((ByteArray.size (rdE (.str : Kd) frames (Int.toNat (0 : Int))) : Int) != (4 : Int)) (kkr (3 : Int) r r1 r2 l l1) (
  cond (decide ((List.length l1 : Int) > (1 : Int))) (
   (gq153 r l l1 r1).bind fun r3 =>
   cond (first != r3) (kkr (3 : Int) r r1 r2 l l1) (kkn first r r1 r2 frames l l1)) (kkn first r r1 r2 frames l l1))
theorem gq116.j3_nat (kkn : Int → Int → Int → Int → List ByteArray → List ByteArray → List ByteArray → Option R) (kkr : Int → Int → Int → Int → List ByteArray → List ByteArray → Option R) (first r r1 r2 frames l l1) : gq116.j3 (fun y0 y1 y2 y3 y4 y5 y6 => (kkn y0 y1 y2 y3 y4 y5 y6).bind g) (fun y0 y1 y2 y3 y4 y5 => (kkr y0 y1 y2 y3 y4 y5).bind g) first r r1 r2 frames l l1 = (gq116.j3 kkn kkr first r r1 r2 frames l l1).bind g := by
 simp only [gq116.j3, u6, u9, uc, u7]
def gq116.j4 {R : Type} (kkn : Int → Int → Int → List ByteArray → List ByteArray → List ByteArray → Option R) (first : Int) (r : Int) (r1 : Int) (r2 : Int) (frames : List ByteArray) (l : List ByteArray) (l1 : List ByteArray) : Option R :=
 cond ((List.length l1 : Int) == (1 : Int)) (kkn first r1 r2 frames l l1) (kkn r r1 r2 frames l l1)
theorem gq116.j4_nat (kkn : Int → Int → Int → List ByteArray → List ByteArray → List ByteArray → Option R) (first r r1 r2 frames l l1) : gq116.j4 (fun y0 y1 y2 y3 y4 y5 => (kkn y0 y1 y2 y3 y4 y5).bind g) first r r1 r2 frames l l1 = (gq116.j4 kkn first r r1 r2 frames l l1).bind g := by
 simp only [gq116.j4, u6, u9, uc, u7]
def gq116.F {R : Type} (kk : Int → Int → List ByteArray → List ByteArray → Int → Int → Option R) (wb8 : Int) (wb9 : List ByteArray) (wba : List ByteArray) (wbb : Int) (wbc : Int) (wad : ByteArray) (waf : ByteArray) (wb1 : Int) (isLast : Bool) : Option R :=
 (gq102 waf).bind fun r =>
 (gq115 wad).bind fun r1 =>
 gq116.j2 (fun used u3a r2 r3 r4 f f1 f2 frames l l1 =>
  grd (gRm (((List.length l1) + (List.length [f])) * 16)) <|
  cond ((List.length frames : Int) == (0 : Int)) (kk (0 : Int) r2 l (l1 ++ [f]) (IntKind.wrap .i64 ((ByteArray.size f1 : Int) - used)) u3a) (
   grd (gIx (0 : Int) (List.length frames)) <|
   (gq103 (rdE (.str : Kd) frames (Int.toNat (0 : Int)))).bind fun r5 =>
   gq116.j3 (fun first r6 r7 r8 frames1 l2 l3 =>
    gq116.j4 (fun r9 r10 r11 frames2 l4 l5 =>
     grd (gSl (1 : Int) (List.length frames2 : Int) (List.length frames2)) <|
     grd (gRm (((List.length l4) + (List.length (sub frames2 (1 : Int) (List.length frames2 : Int)))) * 16)) <|
     kk (0 : Int) r9 (l4 ++ (sub frames2 (1 : Int) (List.length frames2 : Int))) l5 r10 r11) first r6 r7 r8 frames1 l2 l3) (fun i r12 r13 r14 l6 l7 => kk i r12 l6 l7 r13 r14) r5 r2 (IntKind.wrap .i64 ((ByteArray.size f1 : Int) - used)) u3a frames l (l1 ++ [f]))) (fun i1 r15 r16 r17 l8 l9 => kk i1 r15 l8 l9 r16 r17) isLast r.2.1 r.2.2 r1 wb8 wbb wbc wad waf wb1 r.1 wb9 wba
theorem gq116.N (kk : Int → Int → List ByteArray → List ByteArray → Int → Int → Option R) (wb8 wb9 wba wbb wbc wad waf wb1 isLast) : gq116.F (fun y0 y1 y2 y3 y4 y5 => (kk y0 y1 y2 y3 y4 y5).bind g) wb8 wb9 wba wbb wbc wad waf wb1 isLast = (gq116.F kk wb8 wb9 wba wbb wbc wad waf wb1 isLast).bind g := by
 simp only [gq116.F, u6, u9, uc, u7, ← gq116.j2_nat, ← gq116.j3_nat, ← gq116.j4_nat]
def gq116 (wb8 : Int) (wb9 : List ByteArray) (wba : List ByteArray) (wbb : Int) (wbc : Int) (wad : ByteArray) (waf : ByteArray) (wb1 : Int) (isLast : Bool) : Option (Int × Int × List ByteArray × List ByteArray × Int × Int) := gq116.F (fun y0 y1 y2 y3 y4 y5 => some (y0, y1, y2, y3, y4, y5)) wb8 wb9 wba wbb wbc wad waf wb1 isLast
def gq116.out : (Int × Int × List ByteArray × List ByteArray × Int × Int) → CRes := fun a => ⟨encL SV.enc [.one (.int .i64)] (a.1, ()), [encL SC.enc [.int .i64, .own [] .str true, .own [] .str true, .int .i64, .int .i64] (a.2.1, a.2.2.1, a.2.2.2.1, a.2.2.2.2.1, a.2.2.2.2.2, ()), encL SC.enc [] (), encL SC.enc [] ()]⟩
def gq116.ps : List PS := [.ptr [none, some (.str, true), some (.str, true), none, none], .val [none, none, none], .val [none]]
def gq116.sA : List SA := [.ptr [.int .i64, .own [] .str true, .own [] .str true, .int .i64, .int .i64], .v (.agg [.str, .str, .int .i64]), .v (.one (.bool))]
def gq116.fi : FI := FIs gq116.sA (Int × Int × List ByteArray × List ByteArray × Int × Int) (fun t => gq116 t.1.1 t.1.2.1 t.1.2.2.1 t.1.2.2.2.1 t.1.2.2.2.2.1 t.2.1.1 t.2.1.2.1 t.2.1.2.2.1 t.2.2.1) gq116.out gq116.ps
def gq116.E : Env := ⟨tt, lkF [(102, gq102.fi), (103, gq103.fi), (115, gq115.fi), (153, gq153.fi)], 137, 1, [], []⟩
def gq116.sh1 : SK := ⟨[.v (.one (.bptr 0 0)), .v (.one (.bool)), .v (.one (.bptr 1 0)), .v (.one (.slo 2)), .v (.one (.int .i64)), .v (.one (.int .i64)), .v (.one (.int .i64))], [.box [.int .i64, .slo 3, .slo 4, .int .i64, .int .i64], .box [.str, .str, .int .i64], .arr .str [] true, .arr .str [] true, .arr .str [] true]⟩
def gq116.sh1n : SK := ⟨[.v (.one (.bptr 0 0)), .v (.one (.bool)), .v (.one (.bptr 1 0)), .v (.one (.slo 2)), .v (.one (.int .i64)), .v (.one (.int .i64)), .v (.one (.bool))], [.box [.int .i64, .slo 3, .slo 4, .int .i64, .int .i64], .box [.str, .str, .int .i64], .arr .str [] true, .arr .str [] true, .arr .str [] true]⟩
def gq116.ko1 : Ex → List u16 × List Nat
 | .nrm => ([], [0, 2, 4, 7, 8, 10, 22])
 | .ret => ([], [])
 | .ext i => ([], [])
def gq116.G1 (R : Type) (t : gq116.sh1.T) (K : Ex → Kp → Option R) : Option R := gq116.j1 (fun y0 y1 y2 y3 y4 y5 y6 y7 y8 y9 y10 y11 y12 => K .nrm (SK.enc gq116.sh1n (((), y0, (), (), y1, y2, y3, ()), ((y4, (), (), y5, y6, ()), (y7, y8, y9, ()), y10, y11, y12, ())))) t.1.2.1 t.1.2.2.2.2.1 t.1.2.2.2.2.2.1 t.1.2.2.2.2.2.2.1 t.2.1.1 t.2.1.2.2.2.1 t.2.1.2.2.2.2.1 t.2.2.1.1 t.2.2.1.2.1 t.2.2.1.2.2.1 t.2.2.2.1 t.2.2.2.2.1 t.2.2.2.2.2.1
def gq116.S1 : Sum := ⟨([], [0, 2, 4, 7, 8, 9, 10]), sumF gq116.sh1 (gq116.G1), gq116.ko1⟩
theorem gq116.ok1 (hE : EOk Tryz.prog (gq116.E)) : u15 Tryz.prog gq116.E (cL (cB (cL (cR (cR (cR (u5 Tryz.f116))))))) (gq116.S1) := by
 have hh : HintOk Tryz.prog gq116.E (cL (cB (cL (cR (cR (cR (u5 Tryz.f116))))))) (.a) := HintOk.n1 (Q := True) (by kernel_rfl) trivial
 exact sumS (kin := ([], [0, 2, 4, 7, 8, 9, 10])) (kout := gq116.ko1) (sh := gq116.sh1) (F := gq116.G1) (u1a (hE.gv _)) (by kernel_rfl) hh (fun R t K => by kernel_rfl)
def gq116.sh2 : SK := ⟨[.v (.one (.bptr 0 0)), .v (.one (.bool)), .v (.one (.bptr 1 0)), .v (.one (.slo 2)), .v (.one (.int .i64)), .v (.one (.int .i64)), .v (.one (.int .i64))], [.box [.int .i64, .slo 3, .slo 4, .int .i64, .int .i64], .box [.str, .str, .int .i64], .arr .str [] true, .arr .str [] true, .arr .str [] true]⟩
def gq116.sh2n : SK := ⟨[.v (.one (.bptr 0 0)), .v (.one (.bptr 1 0)), .v (.one (.slo 2)), .v (.one (.int .i64)), .v (.one (.int .i64))], [.box [.int .i64, .slo 3, .slo 4, .int .i64, .int .i64], .box [.str, .str, .int .i64], .arr .str [] true, .arr .str [] true, .arr .str [] true]⟩
def gq116.sh2r : SK := ⟨[.v (.one (.bptr 0 0)), .v (.one (.int .i64))], [.box [.int .i64, .slo 1, .slo 2, .int .i64, .int .i64], .arr .str [] true, .arr .str [] true]⟩
def gq116.ko2 : Ex → List u16 × List Nat
 | .nrm => ([], [0, 4, 7, 8, 10])
 | .ret => ([], [0, 6])
 | .ext i => ([], [])
def gq116.G2 (R : Type) (t : gq116.sh2.T) (K : Ex → Kp → Option R) : Option R := gq116.j2 (fun y0 y1 y2 y3 y4 y5 y6 y7 y8 y9 y10 => K .nrm (SK.enc gq116.sh2n (((), (), (), y0, y1, ()), ((y2, (), (), y3, y4, ()), (y5, y6, y7, ()), y8, y9, y10, ())))) (fun y0 y1 y2 y3 y4 y5 => K .ret (SK.enc gq116.sh2r (((), y0, ()), ((y1, (), (), y2, y3, ()), y4, y5, ())))) t.1.2.1 t.1.2.2.2.2.1 t.1.2.2.2.2.2.1 t.1.2.2.2.2.2.2.1 t.2.1.1 t.2.1.2.2.2.1 t.2.1.2.2.2.2.1 t.2.2.1.1 t.2.2.1.2.1 t.2.2.1.2.2.1 t.2.2.2.1 t.2.2.2.2.1 t.2.2.2.2.2.1
def gq116.S2 : Sum := ⟨([], [0, 2, 4, 7, 8, 9, 10]), sumF gq116.sh2 (gq116.G2), gq116.ko2⟩
theorem gq116.ok2 (hE : EOk Tryz.prog (gq116.E)) : u15 Tryz.prog gq116.E (cL (cR (cR (cR (u5 Tryz.f116))))) (gq116.S2) := by
 have hh : HintOk Tryz.prog gq116.E (cL (cR (cR (cR (u5 Tryz.f116))))) (.b (.n (.s (gq116.S1)) (.a))) := HintOk.n1 (Q := (u15 Tryz.prog gq116.E (cL (cB (cL (cR (cR (cR (u5 Tryz.f116))))))) (gq116.S1)) ∧ (True)) (by kernel_rfl) ⟨(gq116.ok1 hE), trivial⟩
 exact sumS (kin := ([], [0, 2, 4, 7, 8, 9, 10])) (kout := gq116.ko2) (sh := gq116.sh2) (F := gq116.G2) (u1a (hE.gv _)) (by kernel_rfl) hh (fun R t K => by kernel_rfl)
def gq116.sh3 : SK := ⟨[.v (.one (.bptr 0 0)), .v (.one (.slo 1)), .v (.one (.int .i64))], [.box [.int .i64, .slo 2, .slo 3, .int .i64, .int .i64], .arr .str [] true, .arr .str [] true, .arr .str [] true]⟩
def gq116.sh3n : SK := ⟨[.v (.one (.bptr 0 0)), .v (.one (.slo 1)), .v (.one (.int .i64))], [.box [.int .i64, .slo 2, .slo 3, .int .i64, .int .i64], .arr .str [] true, .arr .str [] true, .arr .str [] true]⟩
def gq116.sh3r : SK := ⟨[.v (.one (.bptr 0 0)), .v (.one (.int .i64))], [.box [.int .i64, .slo 1, .slo 2, .int .i64, .int .i64], .arr .str [] true, .arr .str [] true]⟩
def gq116.ko3 : Ex → List u16 × List Nat
 | .nrm => ([], [0, 7, 11])
 | .ret => ([], [0, 6])
 | .ext i => ([], [])
def gq116.G3 (R : Type) (t : gq116.sh3.T) (K : Ex → Kp → Option R) : Option R := gq116.j3 (fun y0 y1 y2 y3 y4 y5 y6 => K .nrm (SK.enc gq116.sh3n (((), (), y0, ()), ((y1, (), (), y2, y3, ()), y4, y5, y6, ())))) (fun y0 y1 y2 y3 y4 y5 => K .ret (SK.enc gq116.sh3r (((), y0, ()), ((y1, (), (), y2, y3, ()), y4, y5, ())))) t.1.2.2.1 t.2.1.1 t.2.1.2.2.2.1 t.2.1.2.2.2.2.1 t.2.2.1 t.2.2.2.1 t.2.2.2.2.1
def gq116.S3 : Sum := ⟨([], [0, 7, 11]), sumF gq116.sh3 (gq116.G3), gq116.ko3⟩
theorem gq116.ok3 (hE : EOk Tryz.prog (gq116.E)) : u15 Tryz.prog gq116.E (cL (cR (cR (cR (cR (cR (cR (cR (u5 Tryz.f116))))))))) (gq116.S3) := by
 have hh : HintOk Tryz.prog gq116.E (cL (cR (cR (cR (cR (cR (cR (cR (u5 Tryz.f116))))))))) (.a) := HintOk.n1 (Q := True) (by kernel_rfl) trivial
 exact sumS (kin := ([], [0, 7, 11])) (kout := gq116.ko3) (sh := gq116.sh3) (F := gq116.G3) (u1a (hE.gv _)) (by kernel_rfl) hh (fun R t K => by kernel_rfl)
def gq116.sh4 : SK := ⟨[.v (.one (.bptr 0 0)), .v (.one (.slo 1)), .v (.one (.int .i64))], [.box [.int .i64, .slo 2, .slo 3, .int .i64, .int .i64], .arr .str [] true, .arr .str [] true, .arr .str [] true]⟩
def gq116.sh4n : SK := ⟨[.v (.one (.bptr 0 0)), .v (.one (.slo 1))], [.box [.int .i64, .slo 2, .slo 3, .int .i64, .int .i64], .arr .str [] true, .arr .str [] true, .arr .str [] true]⟩
def gq116.ko4 : Ex → List u16 × List Nat
 | .nrm => ([], [0, 7])
 | .ret => ([], [])
 | .ext i => ([], [])
def gq116.G4 (R : Type) (t : gq116.sh4.T) (K : Ex → Kp → Option R) : Option R := gq116.j4 (fun y0 y1 y2 y3 y4 y5 => K .nrm (SK.enc gq116.sh4n (((), (), ()), ((y0, (), (), y1, y2, ()), y3, y4, y5, ())))) t.1.2.2.1 t.2.1.1 t.2.1.2.2.2.1 t.2.1.2.2.2.2.1 t.2.2.1 t.2.2.2.1 t.2.2.2.2.1
def gq116.S4 : Sum := ⟨([], [0, 7, 11]), sumF gq116.sh4 (gq116.G4), gq116.ko4⟩
theorem gq116.ok4 (hE : EOk Tryz.prog (gq116.E)) : u15 Tryz.prog gq116.E (cL (cR (cR (cR (cR (cR (cR (cR (cR (u5 Tryz.f116)))))))))) (gq116.S4) := by
 have hh : HintOk Tryz.prog gq116.E (cL (cR (cR (cR (cR (cR (cR (cR (cR (u5 Tryz.f116)))))))))) (.a) := HintOk.n1 (Q := True) (by kernel_rfl) trivial
 exact sumS (kin := ([], [0, 7, 11])) (kout := gq116.ko4) (sh := gq116.sh4) (F := gq116.G4) (u1a (hE.gv _)) (by kernel_rfl) hh (fun R t K => by kernel_rfl)
theorem gq116.hok (hE : EOk Tryz.prog (gq116.E)) : HintOk Tryz.prog gq116.E (u5 Tryz.f116) (.n (.a) (.n (.a) (.n (.a) (.n (.s (gq116.S2)) (.n (.a) (.n (.a) (.n (.a) (.n (.s (gq116.S3)) (.n (.s (gq116.S4)) (.a)))))))))) := HintOk.n1 (Q := (True) ∧ ((True) ∧ ((True) ∧ ((u15 Tryz.prog gq116.E (cL (cR (cR (cR (u5 Tryz.f116))))) (gq116.S2)) ∧ ((True) ∧ ((True) ∧ ((True) ∧ ((u15 Tryz.prog gq116.E (cL (cR (cR (cR (cR (cR (cR (cR (u5 Tryz.f116))))))))) (gq116.S3)) ∧ ((u15 Tryz.prog gq116.E (cL (cR (cR (cR (cR (cR (cR (cR (cR (u5 Tryz.f116)))))))))) (gq116.S4)) ∧ (True)))))))))) (by kernel_rfl) ⟨trivial, ⟨trivial, ⟨trivial, ⟨(gq116.ok2 hE), ⟨trivial, ⟨trivial, ⟨trivial, ⟨(gq116.ok3 hE), ⟨(gq116.ok4 hE), trivial⟩⟩⟩⟩⟩⟩⟩⟩⟩
theorem gq116.hE : EOk Tryz.prog (gq116.E) := EOk.of ttOk (⟨gq102.fok, ⟨gq103.fok, ⟨gq115.fok, ⟨gq153.fok, trivial⟩⟩⟩⟩)
theorem gq116.fok : FOk Tryz.prog 116 gq116.fi :=
 fokS (E := gq116.E) (wy := ⟨[[none]], [[none, some (.str, true), some (.str, true), none, none], [], []], []⟩) (h := (fun gs => .n (.a) (.n (.a) (.n (.a) (.n (.s (gq116.S2)) (.n (.a) (.n (.a) (.n (.a) (.n (.s (gq116.S3)) (.n (.s (gq116.S4)) (.a))))))))))) (G := fun t g => gq116.F (fun y0 y1 y2 y3 y4 y5 => g (y0, y1, y2, y3, y4, y5)) t.1.1 t.1.2.1 t.1.2.2.1 t.1.2.2.2.1 t.1.2.2.2.2.1 t.2.1.1 t.2.1.2.1 t.2.1.2.2.1 t.2.2.1) (by kernel_rfl) gq116.hE Tryz.func116 (by kernel_rfl) rfl (Nat.le_refl _) (fun t => HintOk.n1 (by kernel_rfl) (gq116.hok gq116.hE)) (fun t g => gq116.N g (fun y0 y1 y2 y3 y4 y5 => some (y0, y1, y2, y3, y4, y5)) _ _ _ _ _ _ _ _ _) (fun t => by kernel_rfl)
def gq66.l1 {R : Type} (kke0 : Int → Int → List (El u4) → Option R) : Nat → List (El u4) → Int → Int → Int → Int → List (El u4) → Option R
 | 0, _, _, _, _, _, _ => none
 | n + 1, l, i, i1, i2, i3, segments =>
  cond (decide (i1 < i)) (
   grd (gIx i1 (List.length l)) <|
   (gq115 ((rdE u4 l (Int.toNat i1)).1)).bind fun r =>
   cond (decide (r > (0 : Int))) (
    grd (gRm (((List.length segments) + (List.length [rdE u4 l (Int.toNat i1)])) * 40)) <|
    gq66.l1 kke0 n l i (IntKind.wrap .i64 (i1 + (1 : Int))) i2 i3 (segments ++ [rdE u4 l (Int.toNat i1)])) (gq66.l1 kke0 n l i (IntKind.wrap .i64 (i1 + (1 : Int))) i2 i3 segments)) (kke0 i2 i3 segments)
theorem gq66.l1_nat (kke0 : Int → Int → List (El u4) → Option R) : ∀ n l i i1 i2 i3 segments, gq66.l1 (fun y0 y1 y2 => (kke0 y0 y1 y2).bind g) n l i i1 i2 i3 segments = (gq66.l1 kke0 n l i i1 i2 i3 segments).bind g := by
 intro n
 induction n with
 | zero => intros; rfl
 | succ n ih => intros; simp only [gq66.l1, u6, u9, uc, u7, ih]
def gq66.l2 {R : Type} (kke2 : Int → Int → Int → Int → Int → List ByteArray → List ByteArray → Option R) (kkr : Int → Int → Int → Option R) : Nat → Int → Int → Int → Int → List (El u4) → Int → Int → Int → List ByteArray → List ByteArray → Option R
 | 0, _, _, _, _, _, _, _, _, _, _ => none
 | n + 1, i, i1, i2, i3, segments, r, r1, r2, l, l1 =>
  cond (decide (i1 < i)) (
   grd (gIx i1 (List.length segments)) <|
   (gq116 r l l1 r1 r2 ((rdE u4 segments (Int.toNat i1)).1) ((rdE u4 segments (Int.toNat i1)).2.1) ((rdE u4 segments (Int.toNat i1)).2.2) (i1 == (IntKind.wrap .i64 ((List.length segments : Int) - (1 : Int))))).bind fun r3 =>
   cond (r3.1 != (0 : Int)) (kkr r3.1 (0 : Int) (0 : Int)) (
    gq66.l2 kke2 kkr n i (IntKind.wrap .i64 (i1 + (1 : Int))) i2 i3 segments r3.2.1 r3.2.2.2.2.1 r3.2.2.2.2.2 r3.2.2.1 r3.2.2.2.1)) (kke2 i2 i3 r r1 r2 l l1)
theorem gq66.l2_nat (kke2 : Int → Int → Int → Int → Int → List ByteArray → List ByteArray → Option R) (kkr : Int → Int → Int → Option R) : ∀ n i i1 i2 i3 segments r r1 r2 l l1, gq66.l2 (fun y0 y1 y2 y3 y4 y5 y6 => (kke2 y0 y1 y2 y3 y4 y5 y6).bind g) (fun y0 y1 y2 => (kkr y0 y1 y2).bind g) n i i1 i2 i3 segments r r1 r2 l l1 = (gq66.l2 kke2 kkr n i i1 i2 i3 segments r r1 r2 l l1).bind g := by
 intro n
 induction n with
 | zero => intros; rfl
 | succ n ih => intros; simp only [gq66.l2, u6, u9, uc, u7, ih]
def gq66.F {R : Type} (kk : Int → List ByteArray → List ByteArray → Int → Int → Option R) (w94 : Int) (w93 : List (El u4)) : Option R :=
 gq66.l1 (fun i i1 segments =>
  gq66.l2 (fun i2 i3 r r1 r2 l l1 => kk r l l1 r1 (0 : Int)) (fun i4 i5 i6 => kk i5 [] [] i6 i4) fuel (List.length segments : Int) (0 : Int) i i1 segments (0 : Int) (0 : Int) (0 : Int) [] []) fuel w93 (List.length w93 : Int) (0 : Int) (0 : Int) (0 : Int) ([] : List (El u4))
theorem gq66.N (kk : Int → List ByteArray → List ByteArray → Int → Int → Option R) (w94 w93) : gq66.F (fun y0 y1 y2 y3 y4 => (kk y0 y1 y2 y3 y4).bind g) w94 w93 = (gq66.F kk w94 w93).bind g := by
 simp only [gq66.F, u6, u9, uc, u7, ← gq66.l1_nat, ← gq66.l2_nat]
def gq66 (w94 : Int) (w93 : List (El u4)) : Option (Int × List ByteArray × List ByteArray × Int × Int) := gq66.F (fun y0 y1 y2 y3 y4 => some (y0, y1, y2, y3, y4)) w94 w93
def gq66.out : (Int × List ByteArray × List ByteArray × Int × Int) → CRes := fun a => ⟨encL SV.enc [.agg [.int .i64, .own [] .str true, .own [] .str true, .int .i64], .one (.int .i64)] ((a.1, a.2.1, a.2.2.1, a.2.2.2.1, ()), a.2.2.2.2, ()), [encL SC.enc [] ()]⟩
def gq66.ps : List PS := [.val [none, some (u4, false)]]
def gq66.sA : List SA := [.v (.agg [.int .i64, .slv [] u4])]
def gq66.fi : FI := FIs gq66.sA (Int × List ByteArray × List ByteArray × Int × Int) (fun t => gq66 t.1.1 t.1.2.1) gq66.out gq66.ps
def gq66.E : Env := ⟨tt, lkF [(115, gq115.fi), (116, gq116.fi)], 54, 0, [], []⟩
def gq66.sh1 : SK := ⟨[.v (.one (.bptr 0 0)), .v (.one (.slo 1)), .v (.one (.slv [1] u4)), .v (.one (.int .i64)), .v (.one (.int .i64))], [.box [.int .i64, .nil, .nil, .int .i64], .arr u4 [] true]⟩
def gq66.sh1e0 : SK := ⟨[.v (.one (.bptr 0 0)), .v (.one (.slo 1))], [.box [.int .i64, .nil, .nil, .int .i64], .arr u4 [] true]⟩
def gq66.ko1 : Ex → List u16 × List Nat
 | .nrm => ([], [])
 | .ret => ([], [])
 | .ext i => cond (Nat.beq i 0) ([], [2, 4]) ([], [])
def gq66.G1 (n : Nat) (R : Type) (t : gq66.sh1.T) (K : Ex → Kp → Option R) : Option R := gq66.l1 (fun y0 y1 y2 => K (.ext 0) (SK.enc gq66.sh1e0 (((), (), ()), ((y0, (), (), y1, ()), y2, ())))) n t.1.2.2.1 t.1.2.2.2.1 t.1.2.2.2.2.1 t.2.1.1 t.2.1.2.2.2.1 t.2.2.1
def gq66.S1 : Sum := ⟨([], [2, 4, 13, 14, 15]), sumF gq66.sh1 (gq66.G1 fuel), gq66.ko1⟩
theorem gq66.ok1 (hE : EOk Tryz.prog (gq66.E)) : u15 Tryz.prog gq66.E (cB (cR (cL (cR (cR (u5 Tryz.f66)))))) (gq66.S1) := by
 have hh : HintOk Tryz.prog gq66.E (cB (cB (cR (cL (cR (cR (u5 Tryz.f66))))))) (.a) := HintOk.n1 (Q := True) (by kernel_rfl) trivial
 have h := u2a (kin := ([], [2, 4, 13, 14, 15])) (kout := gq66.ko1) (sh := gq66.sh1) (F := gq66.G1) (u1a (hE.gv _)) (by kernel_rfl) hh (fun _ _ _ => rfl) (fun n R t K => by kernel_rfl) fuel
 exact HintOk.n1 (c := (cB (cR (cL (cR (cR (u5 Tryz.f66))))))) (h := .s (gq66.S1)) (P := Tryz.prog) (E := gq66.E) (by kernel_rfl) h
def gq66.sh2 : SK := ⟨[.v (.one (.bptr 0 0)), .v (.one (.slo 1)), .v (.one (.bptr 2 0)), .v (.one (.slo 1)), .v (.one (.int .i64)), .v (.one (.int .i64))], [.box [.int .i64, .nil, .nil, .int .i64], .arr u4 [] true, .box [.int .i64, .slo 3, .slo 4, .int .i64, .int .i64], .arr .str [] true, .arr .str [] true]⟩
def gq66.sh2e2 : SK := ⟨[.v (.one (.bptr 0 0)), .v (.one (.bptr 1 0))], [.box [.int .i64, .nil, .nil, .int .i64], .box [.int .i64, .slo 2, .slo 3, .int .i64, .int .i64], .arr .str [] true, .arr .str [] true]⟩
def gq66.sh2r : SK := ⟨[.v (.one (.bptr 0 0)), .v (.one (.int .i64))], [.box [.int .i64, .nil, .nil, .int .i64]]⟩
def gq66.ko2 : Ex → List u16 × List Nat
 | .nrm => ([], [])
 | .ret => ([], [2, 3])
 | .ext i => cond (Nat.beq i 2) ([], [2, 7]) ([], [])
def gq66.G2 (n : Nat) (R : Type) (t : gq66.sh2.T) (K : Ex → Kp → Option R) : Option R := gq66.l2 (fun y0 y1 y2 y3 y4 y5 y6 => K (.ext 2) (SK.enc gq66.sh2e2 (((), (), ()), ((y0, (), (), y1, ()), (y2, (), (), y3, y4, ()), y5, y6, ())))) (fun y0 y1 y2 => K .ret (SK.enc gq66.sh2r (((), y0, ()), ((y1, (), (), y2, ()), ())))) n t.1.2.2.2.2.1 t.1.2.2.2.2.2.1 t.2.1.1 t.2.1.2.2.2.1 t.2.2.1 t.2.2.2.1.1 t.2.2.2.1.2.2.2.1 t.2.2.2.1.2.2.2.2.1 t.2.2.2.2.1 t.2.2.2.2.2.1
def gq66.S2 : Sum := ⟨([⟨7, true, 1, .own .str⟩, ⟨7, true, 2, .own .str⟩], [2, 4, 7, 30, 31, 32]), sumF gq66.sh2 (gq66.G2 fuel), gq66.ko2⟩
theorem gq66.ok2 (hE : EOk Tryz.prog (gq66.E)) : u15 Tryz.prog gq66.E (cB (cR (cL (cR (cR (cR (cR (u5 Tryz.f66)))))))) (gq66.S2) := by
 have hh : HintOk Tryz.prog gq66.E (cB (cB (cR (cL (cR (cR (cR (cR (u5 Tryz.f66))))))))) (.a) := HintOk.n1 (Q := True) (by kernel_rfl) trivial
 have h := u2a (kin := ([⟨7, true, 1, .own .str⟩, ⟨7, true, 2, .own .str⟩], [2, 4, 7, 30, 31, 32])) (kout := gq66.ko2) (sh := gq66.sh2) (F := gq66.G2) (u1a (hE.gv _)) (by kernel_rfl) hh (fun _ _ _ => rfl) (fun n R t K => by kernel_rfl) fuel
 exact HintOk.n1 (c := (cB (cR (cL (cR (cR (cR (cR (u5 Tryz.f66))))))))) (h := .s (gq66.S2)) (P := Tryz.prog) (E := gq66.E) (by kernel_rfl) h
theorem gq66.hok (hE : EOk Tryz.prog (gq66.E)) : HintOk Tryz.prog gq66.E (u5 Tryz.f66) (.n (.a) (.n (.a) (.n (.n (.a) (.b (.s (gq66.S1)))) (.n (.a) (.n (.n (.a) (.b (.s (gq66.S2)))) (.a)))))) := HintOk.n1 (Q := (True) ∧ ((True) ∧ (((True) ∧ (u15 Tryz.prog gq66.E (cB (cR (cL (cR (cR (u5 Tryz.f66)))))) (gq66.S1))) ∧ ((True) ∧ (((True) ∧ (u15 Tryz.prog gq66.E (cB (cR (cL (cR (cR (cR (cR (u5 Tryz.f66)))))))) (gq66.S2))) ∧ (True)))))) (by kernel_rfl) ⟨trivial, ⟨trivial, ⟨⟨trivial, (gq66.ok1 hE)⟩, ⟨trivial, ⟨⟨trivial, (gq66.ok2 hE)⟩, trivial⟩⟩⟩⟩⟩
theorem gq66.hE : EOk Tryz.prog (gq66.E) := EOk.of ttOk (⟨gq115.fok, ⟨gq116.fok, trivial⟩⟩)
theorem gq66.fok : FOk Tryz.prog 66 gq66.fi :=
 fokS (E := gq66.E) (wy := ⟨[[none, some (.str, true), some (.str, true), none], [none]], [[]], []⟩) (h := (fun gs => .n (.a) (.n (.a) (.n (.n (.a) (.b (.s (gq66.S1)))) (.n (.a) (.n (.n (.a) (.b (.s (gq66.S2)))) (.a))))))) (G := fun t g => gq66.F (fun y0 y1 y2 y3 y4 => g (y0, y1, y2, y3, y4)) t.1.1 t.1.2.1) (by kernel_rfl) gq66.hE Tryz.func66 (by kernel_rfl) rfl (Nat.le_refl _) (fun t => HintOk.n1 (by kernel_rfl) (gq66.hok gq66.hE)) (fun t g => gq66.N g (fun y0 y1 y2 y3 y4 => some (y0, y1, y2, y3, y4)) _ _) (fun t => by kernel_rfl)
def gq68.F {R : Type} (kk : ByteArray → Option R) (n_ : Int) : Option R :=
 grd (gNz (10 : Int)) <|
 grd (gNz (10 : Int)) <|
 grd (gCat (⟨#[115]⟩ : ByteArray) (strL [IntKind.wrap .u8 (IntKind.wrap .i64 ((48 : Int) + (IntKind.wrap .i64 (Int.tdiv n_ (10 : Int))))), IntKind.wrap .u8 (IntKind.wrap .i64 ((48 : Int) + (Int.tmod n_ (10 : Int))))])) <|
 kk ((⟨#[115]⟩ : ByteArray) ++ (strL [IntKind.wrap .u8 (IntKind.wrap .i64 ((48 : Int) + (IntKind.wrap .i64 (Int.tdiv n_ (10 : Int))))), IntKind.wrap .u8 (IntKind.wrap .i64 ((48 : Int) + (Int.tmod n_ (10 : Int))))]))
theorem gq68.N (kk : ByteArray → Option R) (n_) : gq68.F (fun y0 => (kk y0).bind g) n_ = (gq68.F kk n_).bind g := by
 simp only [gq68.F, u6, u9, uc, u7]
def gq68 (n_ : Int) : Option ByteArray := gq68.F (fun y0 => some y0) n_
def gq68.out : ByteArray → CRes := fun a => ⟨encL SV.enc [.one (.str)] (a, ()), [encL SC.enc [] ()]⟩
def gq68.ps : List PS := [.val [none]]
def gq68.sA : List SA := [.v (.one (.int .i64))]
def gq68.fi : FI := FIs gq68.sA (ByteArray) (fun t => gq68 t.1) gq68.out gq68.ps
def gq68.E : Env := ⟨tt, lkF [], 14, 0, [], []⟩
theorem gq68.hok (hE : EOk Tryz.prog (gq68.E)) : HintOk Tryz.prog gq68.E (u5 Tryz.f68) (.a) := HintOk.n1 (Q := True) (by kernel_rfl) trivial
theorem gq68.hE : EOk Tryz.prog (gq68.E) := EOk.of ttOk (trivial)
theorem gq68.fok : FOk Tryz.prog 68 gq68.fi :=
 fokS (E := gq68.E) (wy := ⟨[[none]], [[]], []⟩) (h := (fun gs => .a)) (G := fun t g => gq68.F (fun y0 => g y0) t.1) (by kernel_rfl) gq68.hE Tryz.func68 (by kernel_rfl) rfl (Nat.le_refl _) (fun t => HintOk.n1 (by kernel_rfl) (gq68.hok gq68.hE)) (fun t g => gq68.N g (fun y0 => some y0) _) (fun t => by kernel_rfl)
def gq75.F {R : Type} (kk : ByteArray → Option R) (wa3 : Int) (wa4 : List ByteArray) (w9e : List ByteArray) (wa5 : Int) : Option R :=
 cond ((List.length w9e : Int) == (0 : Int)) (kk ByteArray.empty) (
  grd (gIx (IntKind.wrap .i64 ((List.length w9e : Int) - (1 : Int))) (List.length w9e)) <|
  kk (rdE (.str : Kd) w9e (Int.toNat (IntKind.wrap .i64 ((List.length w9e : Int) - (1 : Int))))))
theorem gq75.N (kk : ByteArray → Option R) (wa3 wa4 w9e wa5) : gq75.F (fun y0 => (kk y0).bind g) wa3 wa4 w9e wa5 = (gq75.F kk wa3 wa4 w9e wa5).bind g := by
 simp only [gq75.F, u6, u9, uc, u7]
def gq75 (wa3 : Int) (wa4 : List ByteArray) (w9e : List ByteArray) (wa5 : Int) : Option ByteArray := gq75.F (fun y0 => some y0) wa3 wa4 w9e wa5
def gq75.out : ByteArray → CRes := fun a => ⟨encL SV.enc [.one (.str)] (a, ()), [encL SC.enc [] ()]⟩
def gq75.ps : List PS := [.val [none, some (.str, false), some (.str, false), none]]
def gq75.sA : List SA := [.v (.agg [.int .i64, .slv [] .str, .slv [] .str, .int .i64])]
def gq75.fi : FI := FIs gq75.sA (ByteArray) (fun t => gq75 t.1.1 t.1.2.1 t.1.2.2.1 t.1.2.2.2.1) gq75.out gq75.ps
def gq75.E : Env := ⟨tt, lkF [], 15, 0, [], []⟩
theorem gq75.hok (hE : EOk Tryz.prog (gq75.E)) : HintOk Tryz.prog gq75.E (u5 Tryz.f75) (.a) := HintOk.n1 (Q := True) (by kernel_rfl) trivial
theorem gq75.hE : EOk Tryz.prog (gq75.E) := EOk.of ttOk (trivial)
theorem gq75.fok : FOk Tryz.prog 75 gq75.fi :=
 fokS (E := gq75.E) (wy := ⟨[[none]], [[]], []⟩) (h := (fun gs => .a)) (G := fun t g => gq75.F (fun y0 => g y0) t.1.1 t.1.2.1 t.1.2.2.1 t.1.2.2.2.1) (by kernel_rfl) gq75.hE Tryz.func75 (by kernel_rfl) rfl (Nat.le_refl _) (fun t => HintOk.n1 (by kernel_rfl) (gq75.hok gq75.hE)) (fun t g => gq75.N g (fun y0 => some y0) _ _ _ _) (fun t => by kernel_rfl)
end
end Go.Proofs.YtaanadbpnmcbcaaGreatDoorA
