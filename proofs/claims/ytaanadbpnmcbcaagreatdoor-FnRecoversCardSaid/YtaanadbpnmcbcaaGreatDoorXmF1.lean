/-
  Functions of the program, and that the small machine's runs are these. No condition.
  Printed by wip/amp/main.py (a session's own program) out of Lean's print of the program; Lean's kernel checks it.
-/
import Derived.Test.YtaanadbpnmcbcaaGreatDoorXmF0
namespace Go.Proofs.YtaanadbpnmcbcaaGreatDoorA
open Go
noncomputable section
set_option linter.unusedVariables false
set_option linter.unusedSimpArgs false
set_option maxRecDepth 100000
variable {R S : Type} (g : R → Option S)
def i_plan.F {R : Type} (kk : List (El u24) → Option R) (w94 : Int) (w93 : List (El u4)) (wa3 : Int) (wa4 : List ByteArray) (w9e : List ByteArray) (wa5 : Int) (data : ByteArray) : Option R :=
 (gq155 data).bind fun r =>
 (gq75 wa3 wa4 w9e wa5).bind fun r1 =>
 (gq153 wa3 wa4 w9e wa5).bind fun r2 =>
 (gq137 r2 (4 : Int)).bind fun r3 =>
 (gq155 r3).bind fun r4 =>
 grd (gCat r4 r) <|
 cond (sEq r1 ByteArray.empty) (
  (gq68 (1 : Int)).bind fun r5 =>
  kk ([((1 : Int), ((0 : Int), (r5, (ByteArray.empty, (r4 ++ r, [])))))])) (
  (gq76 w94 w93 r1).bind fun r6 =>
  grd (gIx r6.1 (List.length w93)) <|
  cond ((ByteArray.size (rdE u4 w93 (Int.toNat r6.1)).2.1 : Int) == (0 : Int)) (kk ([((1 : Int), ((0 : Int), (r1, (ByteArray.empty, (r4 ++ r, [])))))])) (
   cond (decide ((IntKind.wrap .i64 ((ByteArray.size (rdE u4 w93 (Int.toNat r6.1)).2.1 : Int) + (ByteArray.size r : Int))) > (160 : Int))) (
    (gq115 r1).bind fun r7 =>
    (gq68 (IntKind.wrap .i64 (r7 + (1 : Int)))).bind fun r8 =>
    kk ([((2 : Int), ((0 : Int), (r1, (ByteArray.empty, (ByteArray.empty, []))))), ((1 : Int), ((0 : Int), (r8, (ByteArray.empty, (r4 ++ r, [])))))])) (kk ([((1 : Int), ((0 : Int), (r1, (ByteArray.empty, (r, [])))))]))))
theorem i_plan.N (kk : List (El u24) → Option R) (w94 w93 wa3 wa4 w9e wa5 data) : i_plan.F (fun y0 => (kk y0).bind g) w94 w93 wa3 wa4 w9e wa5 data = (i_plan.F kk w94 w93 wa3 wa4 w9e wa5 data).bind g := by
 simp only [i_plan.F, u6, u9, uc, u7]
def i_plan (w94 : Int) (w93 : List (El u4)) (wa3 : Int) (wa4 : List ByteArray) (w9e : List ByteArray) (wa5 : Int) (data : ByteArray) : Option (List (El u24)) := i_plan.F (fun y0 => some y0) w94 w93 wa3 wa4 w9e wa5 data
def i_plan.out : (List (El u24)) → CRes := fun a => ⟨encL SV.enc [.one (.own [] u24 true)] (a, ()), [encL SC.enc [] (), encL SC.enc [] (), encL SC.enc [] ()]⟩
def i_plan.ps : List PS := [.val [none, some (u4, false)], .val [none, some (.str, false), some (.str, false), none], .val [none]]
def i_plan.sA : List SA := [.v (.agg [.int .i64, .slv [] u4]), .v (.agg [.int .i64, .slv [] .str, .slv [] .str, .int .i64]), .v (.one (.str))]
def i_plan.fi : FI := FIs i_plan.sA (List (El u24)) (fun t => i_plan t.1.1 t.1.2.1 t.2.1.1 t.2.1.2.1 t.2.1.2.2.1 t.2.1.2.2.2.1 t.2.2.1) i_plan.out i_plan.ps
def i_plan.E : Env := ⟨tt, lkF [(68, gq68.fi), (75, gq75.fi), (76, gq76.fi), (115, gq115.fi), (137, gq137.fi), (153, gq153.fi), (155, gq155.fi)], 68, 0, [], []⟩
theorem i_plan.hok (hE : EOk Tryz.prog (i_plan.E)) : HintOk Tryz.prog i_plan.E (u5 Tryz.f119) (.a) := HintOk.n1 (Q := True) (by kernel_rfl) trivial
theorem i_plan.hE : EOk Tryz.prog (i_plan.E) := EOk.of ttOk (⟨gq68.fok, ⟨gq75.fok, ⟨gq76.fok, ⟨gq115.fok, ⟨gq137.fok, ⟨gq153.fok, ⟨gq155.fok, trivial⟩⟩⟩⟩⟩⟩⟩)
theorem i_plan.fok : FOk Tryz.prog 119 i_plan.fi :=
 fokS (E := i_plan.E) (wy := ⟨[[some (u24, true)]], [[], [], []], []⟩) (h := (fun gs => .a)) (G := fun t g => i_plan.F (fun y0 => g y0) t.1.1 t.1.2.1 t.2.1.1 t.2.1.2.1 t.2.1.2.2.1 t.2.1.2.2.2.1 t.2.2.1) (by kernel_rfl) i_plan.hE Tryz.func119 (by kernel_rfl) rfl (Nat.le_refl _) (fun t => HintOk.n1 (by kernel_rfl) (i_plan.hok i_plan.hE)) (fun t g => i_plan.N g (fun y0 => some y0) _ _ _ _ _ _ _) (fun t => by kernel_rfl)
def gq70.F {R : Type} (kk : List (El u24) → Int → Option R) (w94 : Int) (w93 : List (El u4)) (data : ByteArray) : Option R :=
 (gq67 (ByteArray.size data : Int) (1 : Int) (110 : Int)).bind fun r =>
 cond (!r) (kk [] (4 : Int)) (
  (gq66 w94 w93).bind fun r1 =>
  cond (r1.2.2.2.2 != (0 : Int)) (kk [] r1.2.2.2.2) (
   cond (decide (r1.2.2.2.1 > (0 : Int))) (kk [] (16 : Int)) (
    cond (decide ((List.length r1.2.1 : Int) ≥ (60 : Int))) (kk [] (6 : Int)) (
     (gq75 r1.1 r1.2.1 r1.2.2.1 r1.2.2.2.1).bind fun r2 =>
     (gq68 (99 : Int)).bind fun r3 =>
     cond (sEq r2 r3) (kk [] (6 : Int)) (
      (i_plan w94 w93 r1.1 r1.2.1 r1.2.2.1 r1.2.2.2.1 data).bind fun r4 =>
      kk r4 (0 : Int))))))
theorem gq70.N (kk : List (El u24) → Int → Option R) (w94 w93 data) : gq70.F (fun y0 y1 => (kk y0 y1).bind g) w94 w93 data = (gq70.F kk w94 w93 data).bind g := by
 simp only [gq70.F, u6, u9, uc, u7]
def gq70 (w94 : Int) (w93 : List (El u4)) (data : ByteArray) : Option (List (El u24) × Int) := gq70.F (fun y0 y1 => some (y0, y1)) w94 w93 data
def gq70.out : (List (El u24) × Int) → CRes := fun a => ⟨encL SV.enc [.one (.own [] u24 true), .one (.int .i64)] (a.1, a.2, ()), [encL SC.enc [] (), encL SC.enc [] ()]⟩
def gq70.ps : List PS := [.val [none, some (u4, false)], .val [none]]
def gq70.sA : List SA := [.v (.agg [.int .i64, .slv [] u4]), .v (.one (.str))]
def gq70.fi : FI := FIs gq70.sA (List (El u24) × Int) (fun t => gq70 t.1.1 t.1.2.1 t.2.1) gq70.out gq70.ps
def gq70.E : Env := ⟨tt, lkF [(66, gq66.fi), (67, gq67.fi), (68, gq68.fi), (75, gq75.fi), (119, i_plan.fi)], 40, 0, [], []⟩
theorem gq70.hok (hE : EOk Tryz.prog (gq70.E)) : HintOk Tryz.prog gq70.E (u5 Tryz.f70) (.a) := HintOk.n1 (Q := True) (by kernel_rfl) trivial
theorem gq70.hE : EOk Tryz.prog (gq70.E) := EOk.of ttOk (⟨gq66.fok, ⟨gq67.fok, ⟨gq68.fok, ⟨gq75.fok, ⟨i_plan.fok, trivial⟩⟩⟩⟩⟩)
theorem gq70.fok : FOk Tryz.prog 70 gq70.fi :=
 fokS (E := gq70.E) (wy := ⟨[[some (u24, true)], [none]], [[], []], []⟩) (h := (fun gs => .a)) (G := fun t g => gq70.F (fun y0 y1 => g (y0, y1)) t.1.1 t.1.2.1 t.2.1) (by kernel_rfl) gq70.hE Tryz.func70 (by kernel_rfl) rfl (Nat.le_refl _) (fun t => HintOk.n1 (by kernel_rfl) (gq70.hok gq70.hE)) (fun t g => gq70.N g (fun y0 y1 => some (y0, y1)) _ _ _) (fun t => by kernel_rfl)
def gq71.l1 {R : Type} (kke0 : Int → Int → List (El u4) → Option R) (kkr : Int → Int → Option R) : Nat → Int → Int → Int → Int → List (El u24) → List (El u4) → Option R
 | 0, _, _, _, _, _, _ => none
 | n + 1, i, i1, i2, out, l, l1 =>
  cond (decide (i1 < i)) (
   grd (gIx i1 (List.length l)) <|
   (gq55 out l1 ((rdE u24 l (Int.toNat i1)).1) ((rdE u24 l (Int.toNat i1)).2.1) ((rdE u24 l (Int.toNat i1)).2.2.1) ((rdE u24 l (Int.toNat i1)).2.2.2.1) ((rdE u24 l (Int.toNat i1)).2.2.2.2.1) ((rdE u24 l (Int.toNat i1)).2.2.2.2.2)).bind fun r =>
   cond (r.1 != (0 : Int)) (kkr r.1 (0 : Int)) (gq71.l1 kke0 kkr n i (IntKind.wrap .i64 (i1 + (1 : Int))) i2 r.2.1 l r.2.2)) (kke0 i2 out l1)
theorem gq71.l1_nat (kke0 : Int → Int → List (El u4) → Option R) (kkr : Int → Int → Option R) : ∀ n i i1 i2 out l l1, gq71.l1 (fun y0 y1 y2 => (kke0 y0 y1 y2).bind g) (fun y0 y1 => (kkr y0 y1).bind g) n i i1 i2 out l l1 = (gq71.l1 kke0 kkr n i i1 i2 out l l1).bind g := by
 intro n
 induction n with
 | zero => intros; rfl
 | succ n ih => intros; simp only [gq71.l1, u6, u9, uc, u7, ih]
def gq71.F {R : Type} (kk : Int → List (El u4) → Int → Option R) (w94 : Int) (w93 : List (El u4)) (data : ByteArray) : Option R :=
 (gq70 w94 w93 data).bind fun r =>
 cond (r.2 != (0 : Int)) (kk (0 : Int) [] r.2) (
  (gq53 w94 w93).bind fun r1 =>
  gq71.l1 (fun i out l => kk out l (0 : Int)) (fun i1 i2 => kk i2 [] i1) fuel (List.length r.1 : Int) (0 : Int) (0 : Int) r1.1 r.1 r1.2)
theorem gq71.N (kk : Int → List (El u4) → Int → Option R) (w94 w93 data) : gq71.F (fun y0 y1 y2 => (kk y0 y1 y2).bind g) w94 w93 data = (gq71.F kk w94 w93 data).bind g := by
 simp only [gq71.F, u6, u9, uc, u7, ← gq71.l1_nat]
def gq71 (w94 : Int) (w93 : List (El u4)) (data : ByteArray) : Option (Int × List (El u4) × Int) := gq71.F (fun y0 y1 y2 => some (y0, y1, y2)) w94 w93 data
def gq71.out : (Int × List (El u4) × Int) → CRes := fun a => ⟨encL SV.enc [.agg [.int .i64, .own [] u4 true], .one (.int .i64)] ((a.1, a.2.1, ()), a.2.2, ()), [encL SC.enc [] (), encL SC.enc [] ()]⟩
def gq71.ps : List PS := [.val [none, some (u4, false)], .val [none]]
def gq71.sA : List SA := [.v (.agg [.int .i64, .slv [] u4]), .v (.one (.str))]
def gq71.fi : FI := FIs gq71.sA (Int × List (El u4) × Int) (fun t => gq71 t.1.1 t.1.2.1 t.2.1) gq71.out gq71.ps
def gq71.E : Env := ⟨tt, lkF [(53, gq53.fi), (55, gq55.fi), (70, gq70.fi)], 38, 0, [], []⟩
def gq71.sh1 : SK := ⟨[.v (.one (.bptr 0 0)), .v (.one (.bptr 1 0)), .v (.one (.slo 2)), .v (.one (.int .i64)), .v (.one (.int .i64))], [.box [.int .i64, .nil], .box [.int .i64, .slo 3], .arr u24 [] true, .arr u4 [] true]⟩
def gq71.sh1e0 : SK := ⟨[.v (.one (.bptr 0 0)), .v (.one (.bptr 1 0))], [.box [.int .i64, .nil], .box [.int .i64, .slo 2], .arr u4 [] true]⟩
def gq71.sh1r : SK := ⟨[.v (.one (.bptr 0 0)), .v (.one (.int .i64))], [.box [.int .i64, .nil]]⟩
def gq71.ko1 : Ex → List u16 × List Nat
 | .nrm => ([], [])
 | .ret => ([], [4, 5])
 | .ext i => cond (Nat.beq i 0) ([], [4, 8]) ([], [])
def gq71.G1 (n : Nat) (R : Type) (t : gq71.sh1.T) (K : Ex → Kp → Option R) : Option R := gq71.l1 (fun y0 y1 y2 => K (.ext 0) (SK.enc gq71.sh1e0 (((), (), ()), ((y0, (), ()), (y1, (), ()), y2, ())))) (fun y0 y1 => K .ret (SK.enc gq71.sh1r (((), y0, ()), ((y1, (), ()), ())))) n t.1.2.2.2.1 t.1.2.2.2.2.1 t.2.1.1 t.2.2.1.1 t.2.2.2.1 t.2.2.2.2.1
def gq71.S1 : Sum := ⟨([], [4, 8, 24, 25, 26]), sumF gq71.sh1 (gq71.G1 fuel), gq71.ko1⟩
theorem gq71.ok1 (hE : EOk Tryz.prog (gq71.E)) : u15 Tryz.prog gq71.E (cB (cR (cL (cR (cR (cR (cR (u5 Tryz.f71)))))))) (gq71.S1) := by
 have hh : HintOk Tryz.prog gq71.E (cB (cB (cR (cL (cR (cR (cR (cR (u5 Tryz.f71))))))))) (.a) := HintOk.n1 (Q := True) (by kernel_rfl) trivial
 have h := u2a (kin := ([], [4, 8, 24, 25, 26])) (kout := gq71.ko1) (sh := gq71.sh1) (F := gq71.G1) (u1a (hE.gv _)) (by kernel_rfl) hh (fun _ _ _ => rfl) (fun n R t K => by kernel_rfl) fuel
 exact HintOk.n1 (c := (cB (cR (cL (cR (cR (cR (cR (u5 Tryz.f71))))))))) (h := .s (gq71.S1)) (P := Tryz.prog) (E := gq71.E) (by kernel_rfl) h
theorem gq71.hok (hE : EOk Tryz.prog (gq71.E)) : HintOk Tryz.prog gq71.E (u5 Tryz.f71) (.n (.a) (.n (.a) (.n (.a) (.n (.a) (.n (.n (.a) (.b (.s (gq71.S1)))) (.a)))))) := HintOk.n1 (Q := (True) ∧ ((True) ∧ ((True) ∧ ((True) ∧ (((True) ∧ (u15 Tryz.prog gq71.E (cB (cR (cL (cR (cR (cR (cR (u5 Tryz.f71)))))))) (gq71.S1))) ∧ (True)))))) (by kernel_rfl) ⟨trivial, ⟨trivial, ⟨trivial, ⟨trivial, ⟨⟨trivial, (gq71.ok1 hE)⟩, trivial⟩⟩⟩⟩⟩
theorem gq71.hE : EOk Tryz.prog (gq71.E) := EOk.of ttOk (⟨gq53.fok, ⟨gq55.fok, ⟨gq70.fok, trivial⟩⟩⟩)
theorem gq71.fok : FOk Tryz.prog 71 gq71.fi :=
 fokS (E := gq71.E) (wy := ⟨[[none, some (u4, true)], [none]], [[], []], []⟩) (h := (fun gs => .n (.a) (.n (.a) (.n (.a) (.n (.a) (.n (.n (.a) (.b (.s (gq71.S1)))) (.a))))))) (G := fun t g => gq71.F (fun y0 y1 y2 => g (y0, y1, y2)) t.1.1 t.1.2.1 t.2.1) (by kernel_rfl) gq71.hE Tryz.func71 (by kernel_rfl) rfl (Nat.le_refl _) (fun t => HintOk.n1 (by kernel_rfl) (gq71.hok gq71.hE)) (fun t g => gq71.N g (fun y0 y1 y2 => some (y0, y1, y2)) _ _ _) (fun t => by kernel_rfl)
def gq27.F {R : Type} (kk : Int → List (El u4) → Int → Option R) (w94 : Int) (w93 : List (El u4)) (data : ByteArray) : Option R :=
 (gq69 [data]).bind fun r =>
 cond (!r) (kk (0 : Int) [] (2 : Int)) (
  (gq65 w94 w93).bind fun r1 =>
  cond (!r1) (kk (0 : Int) [] (1 : Int)) (
   (gq71 w94 w93 data).bind fun r2 =>
   kk r2.1 r2.2.1 r2.2.2))
theorem gq27.N (kk : Int → List (El u4) → Int → Option R) (w94 w93 data) : gq27.F (fun y0 y1 y2 => (kk y0 y1 y2).bind g) w94 w93 data = (gq27.F kk w94 w93 data).bind g := by
 simp only [gq27.F, u6, u9, uc, u7]
def gq27 (w94 : Int) (w93 : List (El u4)) (data : ByteArray) : Option (Int × List (El u4) × Int) := gq27.F (fun y0 y1 y2 => some (y0, y1, y2)) w94 w93 data
def gq27.out : (Int × List (El u4) × Int) → CRes := fun a => ⟨encL SV.enc [.agg [.int .i64, .own [] u4 true], .one (.int .i64)] ((a.1, a.2.1, ()), a.2.2, ()), [encL SC.enc [] (), encL SC.enc [] ()]⟩
def gq27.ps : List PS := [.val [none, some (u4, false)], .val [none]]
def gq27.sA : List SA := [.v (.agg [.int .i64, .slv [] u4]), .v (.one (.str))]
def gq27.fi : FI := FIs gq27.sA (Int × List (El u4) × Int) (fun t => gq27 t.1.1 t.1.2.1 t.2.1) gq27.out gq27.ps
def gq27.E : Env := ⟨tt, lkF [(65, gq65.fi), (69, gq69.fi), (71, gq71.fi)], 22, 0, [], []⟩
theorem gq27.hok (hE : EOk Tryz.prog (gq27.E)) : HintOk Tryz.prog gq27.E (u5 Tryz.f27) (.a) := HintOk.n1 (Q := True) (by kernel_rfl) trivial
theorem gq27.hE : EOk Tryz.prog (gq27.E) := EOk.of ttOk (⟨gq65.fok, ⟨gq69.fok, ⟨gq71.fok, trivial⟩⟩⟩)
theorem gq27.fok : FOk Tryz.prog 27 gq27.fi :=
 fokS (E := gq27.E) (wy := ⟨[[none, some (u4, true)], [none]], [[], []], []⟩) (h := (fun gs => .a)) (G := fun t g => gq27.F (fun y0 y1 y2 => g (y0, y1, y2)) t.1.1 t.1.2.1 t.2.1) (by kernel_rfl) gq27.hE Tryz.func27 (by kernel_rfl) rfl (Nat.le_refl _) (fun t => HintOk.n1 (by kernel_rfl) (gq27.hok gq27.hE)) (fun t g => gq27.N g (fun y0 y1 y2 => some (y0, y1, y2)) _ _ _) (fun t => by kernel_rfl)
def gq50.F {R : Type} (kk : Int → List (El u4) → Option R) (w94 : Int) (w93 : List (El u4)) : Option R :=
 grd (gRm (((List.length ([] : List (El u4))) + (List.length w93)) * 40)) <|
 kk w94 (([] : List (El u4)) ++ w93)
theorem gq50.N (kk : Int → List (El u4) → Option R) (w94 w93) : gq50.F (fun y0 y1 => (kk y0 y1).bind g) w94 w93 = (gq50.F kk w94 w93).bind g := by
 simp only [gq50.F, u6, u9, uc, u7]
def gq50 (w94 : Int) (w93 : List (El u4)) : Option (Int × List (El u4)) := gq50.F (fun y0 y1 => some (y0, y1)) w94 w93
def gq50.out : (Int × List (El u4)) → CRes := fun a => ⟨encL SV.enc [.agg [.int .i64, .own [] u4 true]] ((a.1, a.2, ()), ()), [encL SC.enc [] ()]⟩
def gq50.ps : List PS := [.val [none, some (u4, false)]]
def gq50.sA : List SA := [.v (.agg [.int .i64, .slv [] u4])]
def gq50.fi : FI := FIs gq50.sA (Int × List (El u4)) (fun t => gq50 t.1.1 t.1.2.1) gq50.out gq50.ps
def gq50.E : Env := ⟨tt, lkF [], 10, 0, [], []⟩
theorem gq50.hok (hE : EOk Tryz.prog (gq50.E)) : HintOk Tryz.prog gq50.E (u5 Tryz.f50) (.a) := HintOk.n1 (Q := True) (by kernel_rfl) trivial
theorem gq50.hE : EOk Tryz.prog (gq50.E) := EOk.of ttOk (trivial)
theorem gq50.fok : FOk Tryz.prog 50 gq50.fi :=
 fokS (E := gq50.E) (wy := ⟨[[none, some (u4, true)]], [[]], []⟩) (h := (fun gs => .a)) (G := fun t g => gq50.F (fun y0 y1 => g (y0, y1)) t.1.1 t.1.2.1) (by kernel_rfl) gq50.hE Tryz.func50 (by kernel_rfl) rfl (Nat.le_refl _) (fun t => HintOk.n1 (by kernel_rfl) (gq50.hok gq50.hE)) (fun t g => gq50.N g (fun y0 y1 => some (y0, y1)) _ _) (fun t => by kernel_rfl)
def gq158.F {R : Type} (kk : Bool → Option R) (c : Int) : Option R :=
 cond (decide (c ≥ (48 : Int))) (kk (decide (c ≤ (57 : Int)))) (kk false)
theorem gq158.N (kk : Bool → Option R) (c) : gq158.F (fun y0 => (kk y0).bind g) c = (gq158.F kk c).bind g := by
 simp only [gq158.F, u6, u9, uc, u7]
def gq158 (c : Int) : Option Bool := gq158.F (fun y0 => some y0) c
def gq158.out : Bool → CRes := fun a => ⟨encL SV.enc [.one (.bool)] (a, ()), [encL SC.enc [] ()]⟩
def gq158.ps : List PS := [.val [none]]
def gq158.sA : List SA := [.v (.one (.int .u8))]
def gq158.fi : FI := FIs gq158.sA (Bool) (fun t => gq158 t.1) gq158.out gq158.ps
def gq158.E : Env := ⟨tt, lkF [], 9, 0, [], []⟩
theorem gq158.hok (hE : EOk Tryz.prog (gq158.E)) : HintOk Tryz.prog gq158.E (u5 Tryz.f158) (.a) := HintOk.n1 (Q := True) (by kernel_rfl) trivial
theorem gq158.hE : EOk Tryz.prog (gq158.E) := EOk.of ttOk (trivial)
theorem gq158.fok : FOk Tryz.prog 158 gq158.fi :=
 fokS (E := gq158.E) (wy := ⟨[[none]], [[]], []⟩) (h := (fun gs => .a)) (G := fun t g => gq158.F (fun y0 => g y0) t.1) (by kernel_rfl) gq158.hE Tryz.func158 (by kernel_rfl) rfl (Nat.le_refl _) (fun t => HintOk.n1 (by kernel_rfl) (gq158.hok gq158.hE)) (fun t g => gq158.N g (fun y0 => some y0) _) (fun t => by kernel_rfl)
def gq177.F {R : Type} (kk : Bool → Option R) (c : Int) : Option R :=
 cond (decide (c ≥ (97 : Int))) (
  cond (decide (c ≤ (122 : Int))) (kk true) (
   cond (decide (c ≥ (65 : Int))) (cond (decide (c ≤ (90 : Int))) (kk true) (kk (c == (95 : Int)))) (kk (c == (95 : Int))))) (
  cond (decide (c ≥ (65 : Int))) (cond (decide (c ≤ (90 : Int))) (kk true) (kk (c == (95 : Int)))) (kk (c == (95 : Int))))
theorem gq177.N (kk : Bool → Option R) (c) : gq177.F (fun y0 => (kk y0).bind g) c = (gq177.F kk c).bind g := by
 simp only [gq177.F, u6, u9, uc, u7]
def gq177 (c : Int) : Option Bool := gq177.F (fun y0 => some y0) c
def gq177.out : Bool → CRes := fun a => ⟨encL SV.enc [.one (.bool)] (a, ()), [encL SC.enc [] ()]⟩
def gq177.ps : List PS := [.val [none]]
def gq177.sA : List SA := [.v (.one (.int .u8))]
def gq177.fi : FI := FIs gq177.sA (Bool) (fun t => gq177 t.1) gq177.out gq177.ps
def gq177.E : Env := ⟨tt, lkF [], 21, 0, [], []⟩
theorem gq177.hok (hE : EOk Tryz.prog (gq177.E)) : HintOk Tryz.prog gq177.E (u5 Tryz.f177) (.a) := HintOk.n1 (Q := True) (by kernel_rfl) trivial
theorem gq177.hE : EOk Tryz.prog (gq177.E) := EOk.of ttOk (trivial)
theorem gq177.fok : FOk Tryz.prog 177 gq177.fi :=
 fokS (E := gq177.E) (wy := ⟨[[none]], [[]], []⟩) (h := (fun gs => .a)) (G := fun t g => gq177.F (fun y0 => g y0) t.1) (by kernel_rfl) gq177.hE Tryz.func177 (by kernel_rfl) rfl (Nat.le_refl _) (fun t => HintOk.n1 (by kernel_rfl) (gq177.hok gq177.hE)) (fun t g => gq177.N g (fun y0 => some y0) _) (fun t => by kernel_rfl)
def gq156.l1 {R : Type} (kke0 : Option R) (kkr : Bool → Option R) : Nat → ByteArray → Int → Option R
 | 0, _, _ => none
 | n + 1, t_, i =>
  cond (decide (i < (ByteArray.size t_ : Int))) (
   grd (gIx i (ByteArray.size t_)) <|
   (gq177 (u21 t_ i)).bind fun r =>
   cond (!r) (
    grd (gIx i (ByteArray.size t_)) <|
    (gq158 (u21 t_ i)).bind fun r1 =>
    cond (!r1) (kkr false) (gq156.l1 kke0 kkr n t_ (IntKind.wrap .i64 (i + (1 : Int))))) (gq156.l1 kke0 kkr n t_ (IntKind.wrap .i64 (i + (1 : Int))))) (kke0)
theorem gq156.l1_nat (kke0 : Option R) (kkr : Bool → Option R) : ∀ n t_ i, gq156.l1 (kke0.bind g) (fun y0 => (kkr y0).bind g) n t_ i = (gq156.l1 kke0 kkr n t_ i).bind g := by
 intro n
 induction n with
 | zero => intros; rfl
 | succ n ih => intros; simp only [gq156.l1, u6, u9, uc, u7, ih]
def gq156.F {R : Type} (kk : Bool → Option R) (t_ : ByteArray) : Option R :=
 cond (decide ((ByteArray.size t_ : Int) < (1 : Int))) (kk false) (
  cond (decide ((ByteArray.size t_ : Int) > (40 : Int))) (kk false) (
   grd (gIx (0 : Int) (ByteArray.size t_)) <|
   (gq177 (u21 t_ (0 : Int))).bind fun r =>
   cond (!r) (kk false) (gq156.l1 (kk true) (fun b => kk b) fuel t_ (1 : Int))))
theorem gq156.N (kk : Bool → Option R) (t_) : gq156.F (fun y0 => (kk y0).bind g) t_ = (gq156.F kk t_).bind g := by
 simp only [gq156.F, u6, u9, uc, u7, ← gq156.l1_nat]
def gq156 (t_ : ByteArray) : Option Bool := gq156.F (fun y0 => some y0) t_
def gq156.out : Bool → CRes := fun a => ⟨encL SV.enc [.one (.bool)] (a, ()), [encL SC.enc [] ()]⟩
def gq156.ps : List PS := [.val [none]]
def gq156.sA : List SA := [.v (.one (.str))]
def gq156.fi : FI := FIs gq156.sA (Bool) (fun t => gq156 t.1) gq156.out gq156.ps
def gq156.E : Env := ⟨tt, lkF [(158, gq158.fi), (177, gq177.fi)], 36, 0, [], []⟩
def gq156.sh1 : SK := ⟨[.v (.one (.str)), .v (.one (.int .i64))], []⟩
def gq156.sh1e0 : SK := ⟨[], []⟩
def gq156.sh1r : SK := ⟨[.v (.one (.bool))], []⟩
def gq156.ko1 : Ex → List u16 × List Nat
 | .nrm => ([], [])
 | .ret => ([], [2])
 | .ext i => cond (Nat.beq i 0) ([], []) ([], [])
def gq156.G1 (n : Nat) (R : Type) (t : gq156.sh1.T) (K : Ex → Kp → Option R) : Option R := gq156.l1 (K (.ext 0) (SK.enc gq156.sh1e0 ((), ()))) (fun y0 => K .ret (SK.enc gq156.sh1r ((y0, ()), ()))) n t.1.1 t.1.2.1
def gq156.S1 : Sum := ⟨([], [0, 3]), sumF gq156.sh1 (gq156.G1 fuel), gq156.ko1⟩
theorem gq156.ok1 (hE : EOk Tryz.prog (gq156.E)) : u15 Tryz.prog gq156.E (cB (cR (cL (cR (cR (u5 Tryz.f156)))))) (gq156.S1) := by
 have hh : HintOk Tryz.prog gq156.E (cB (cB (cR (cL (cR (cR (u5 Tryz.f156))))))) (.a) := HintOk.n1 (Q := True) (by kernel_rfl) trivial
 have h := u2a (kin := ([], [0, 3])) (kout := gq156.ko1) (sh := gq156.sh1) (F := gq156.G1) (u1a (hE.gv _)) (by kernel_rfl) hh (fun _ _ _ => rfl) (fun n R t K => by kernel_rfl) fuel
 exact HintOk.n1 (c := (cB (cR (cL (cR (cR (u5 Tryz.f156))))))) (h := .s (gq156.S1)) (P := Tryz.prog) (E := gq156.E) (by kernel_rfl) h
theorem gq156.hok (hE : EOk Tryz.prog (gq156.E)) : HintOk Tryz.prog gq156.E (u5 Tryz.f156) (.n (.a) (.n (.a) (.n (.n (.a) (.b (.s (gq156.S1)))) (.a)))) := HintOk.n1 (Q := (True) ∧ ((True) ∧ (((True) ∧ (u15 Tryz.prog gq156.E (cB (cR (cL (cR (cR (u5 Tryz.f156)))))) (gq156.S1))) ∧ (True)))) (by kernel_rfl) ⟨trivial, ⟨trivial, ⟨⟨trivial, (gq156.ok1 hE)⟩, trivial⟩⟩⟩
theorem gq156.hE : EOk Tryz.prog (gq156.E) := EOk.of ttOk (⟨gq158.fok, ⟨gq177.fok, trivial⟩⟩)
theorem gq156.fok : FOk Tryz.prog 156 gq156.fi :=
 fokS (E := gq156.E) (wy := ⟨[[none]], [[]], []⟩) (h := (fun gs => .n (.a) (.n (.a) (.n (.n (.a) (.b (.s (gq156.S1)))) (.a))))) (G := fun t g => gq156.F (fun y0 => g y0) t.1) (by kernel_rfl) gq156.hE Tryz.func156 (by kernel_rfl) rfl (Nat.le_refl _) (fun t => HintOk.n1 (by kernel_rfl) (gq156.hok gq156.hE)) (fun t g => gq156.N g (fun y0 => some y0) _) (fun t => by kernel_rfl)
def gq120.F {R : Type} (kk : Bool → Option R) (t_ : ByteArray) : Option R :=
 (gq156 t_).bind fun r =>
 kk r
theorem gq120.N (kk : Bool → Option R) (t_) : gq120.F (fun y0 => (kk y0).bind g) t_ = (gq120.F kk t_).bind g := by
 simp only [gq120.F, u6, u9, uc, u7]
def gq120 (t_ : ByteArray) : Option Bool := gq120.F (fun y0 => some y0) t_
def gq120.out : Bool → CRes := fun a => ⟨encL SV.enc [.one (.bool)] (a, ()), [encL SC.enc [] ()]⟩
def gq120.ps : List PS := [.val [none]]
def gq120.sA : List SA := [.v (.one (.str))]
def gq120.fi : FI := FIs gq120.sA (Bool) (fun t => gq120 t.1) gq120.out gq120.ps
def gq120.E : Env := ⟨tt, lkF [(156, gq156.fi)], 5, 0, [], []⟩
theorem gq120.hok (hE : EOk Tryz.prog (gq120.E)) : HintOk Tryz.prog gq120.E (u5 Tryz.f120) (.a) := HintOk.n1 (Q := True) (by kernel_rfl) trivial
theorem gq120.hE : EOk Tryz.prog (gq120.E) := EOk.of ttOk (⟨gq156.fok, trivial⟩)
theorem gq120.fok : FOk Tryz.prog 120 gq120.fi :=
 fokS (E := gq120.E) (wy := ⟨[[none]], [[]], []⟩) (h := (fun gs => .a)) (G := fun t g => gq120.F (fun y0 => g y0) t.1) (by kernel_rfl) gq120.hE Tryz.func120 (by kernel_rfl) rfl (Nat.le_refl _) (fun t => HintOk.n1 (by kernel_rfl) (gq120.hok gq120.hE)) (fun t g => gq120.N g (fun y0 => some y0) _) (fun t => by kernel_rfl)
def gq121.l1 {R : Type} (kke0 : Int → Option R) : Nat → Int → Int → Int → List (El u4) → Option R
 | 0, _, _, _, _ => none
 | n + 1, n_, i, d, d1 =>
  cond (decide (i < (List.length d1 : Int))) (
   grd (gIx i (List.length d1)) <|
   gq121.l1 kke0 n (IntKind.wrap .i64 (n_ + (ByteArray.size (rdE u4 d1 (Int.toNat i)).2.1 : Int))) (IntKind.wrap .i64 (i + (1 : Int))) d d1) (kke0 n_)
theorem gq121.l1_nat (kke0 : Int → Option R) : ∀ n n_ i d d1, gq121.l1 (fun y0 => (kke0 y0).bind g) n n_ i d d1 = (gq121.l1 kke0 n n_ i d d1).bind g := by
 intro n
 induction n with
 | zero => intros; rfl
 | succ n ih => intros; simp only [gq121.l1, u6, u9, uc, u7, ih]
def gq121.F {R : Type} (kk : Int → Option R) (w94 : Int) (w93 : List (El u4)) : Option R :=
 gq121.l1 (fun n_ => kk n_) fuel (0 : Int) (0 : Int) w94 w93
theorem gq121.N (kk : Int → Option R) (w94 w93) : gq121.F (fun y0 => (kk y0).bind g) w94 w93 = (gq121.F kk w94 w93).bind g := by
 simp only [gq121.F, u6, u9, uc, u7, ← gq121.l1_nat]
def gq121 (w94 : Int) (w93 : List (El u4)) : Option Int := gq121.F (fun y0 => some y0) w94 w93
def gq121.out : Int → CRes := fun a => ⟨encL SV.enc [.one (.int .i64)] (a, ()), [encL SC.enc [] ()]⟩
def gq121.ps : List PS := [.val [none, some (u4, false)]]
def gq121.sA : List SA := [.v (.agg [.int .i64, .slv [] u4])]
def gq121.fi : FI := FIs gq121.sA (Int) (fun t => gq121 t.1.1 t.1.2.1) gq121.out gq121.ps
def gq121.E : Env := ⟨tt, lkF [], 22, 0, [], []⟩
def gq121.sh1 : SK := ⟨[.v (.one (.bptr 0 0)), .v (.one (.int .i64)), .v (.one (.int .i64))], [.box [.int .i64, .slv [1] u4]]⟩
def gq121.sh1e0 : SK := ⟨[.v (.one (.int .i64))], []⟩
def gq121.ko1 : Ex → List u16 × List Nat
 | .nrm => ([], [])
 | .ret => ([], [])
 | .ext i => cond (Nat.beq i 0) ([], [3]) ([], [])
def gq121.G1 (n : Nat) (R : Type) (t : gq121.sh1.T) (K : Ex → Kp → Option R) : Option R := gq121.l1 (fun y0 => K (.ext 0) (SK.enc gq121.sh1e0 ((y0, ()), ()))) n t.1.2.1 t.1.2.2.1 t.2.1.1 t.2.1.2.1
def gq121.S1 : Sum := ⟨([], [1, 3, 4]), sumF gq121.sh1 (gq121.G1 fuel), gq121.ko1⟩
theorem gq121.ok1 (hE : EOk Tryz.prog (gq121.E)) : u15 Tryz.prog gq121.E (cB (cR (cL (cR (cR (u5 Tryz.f121)))))) (gq121.S1) := by
 have hh : HintOk Tryz.prog gq121.E (cB (cB (cR (cL (cR (cR (u5 Tryz.f121))))))) (.a) := HintOk.n1 (Q := True) (by kernel_rfl) trivial
 have h := u2a (kin := ([], [1, 3, 4])) (kout := gq121.ko1) (sh := gq121.sh1) (F := gq121.G1) (u1a (hE.gv _)) (by kernel_rfl) hh (fun _ _ _ => rfl) (fun n R t K => by kernel_rfl) fuel
 exact HintOk.n1 (c := (cB (cR (cL (cR (cR (u5 Tryz.f121))))))) (h := .s (gq121.S1)) (P := Tryz.prog) (E := gq121.E) (by kernel_rfl) h
theorem gq121.hok (hE : EOk Tryz.prog (gq121.E)) : HintOk Tryz.prog gq121.E (u5 Tryz.f121) (.n (.a) (.n (.a) (.n (.n (.a) (.b (.s (gq121.S1)))) (.a)))) := HintOk.n1 (Q := (True) ∧ ((True) ∧ (((True) ∧ (u15 Tryz.prog gq121.E (cB (cR (cL (cR (cR (u5 Tryz.f121)))))) (gq121.S1))) ∧ (True)))) (by kernel_rfl) ⟨trivial, ⟨trivial, ⟨⟨trivial, (gq121.ok1 hE)⟩, trivial⟩⟩⟩
theorem gq121.hE : EOk Tryz.prog (gq121.E) := EOk.of ttOk (trivial)
theorem gq121.fok : FOk Tryz.prog 121 gq121.fi :=
 fokS (E := gq121.E) (wy := ⟨[[none]], [[]], []⟩) (h := (fun gs => .n (.a) (.n (.a) (.n (.n (.a) (.b (.s (gq121.S1)))) (.a))))) (G := fun t g => gq121.F (fun y0 => g y0) t.1.1 t.1.2.1) (by kernel_rfl) gq121.hE Tryz.func121 (by kernel_rfl) rfl (Nat.le_refl _) (fun t => HintOk.n1 (by kernel_rfl) (gq121.hok gq121.hE)) (fun t g => gq121.N g (fun y0 => some y0) _ _) (fun t => by kernel_rfl)
def gq73.l1 {R : Type} (kke0 : Int → List (El u4) → Option R) (kkr : Bool → Option R) : Nat → Int → Int → List (El u4) → Option R
 | 0, _, _, _ => none
 | n + 1, i, d, d1 =>
  cond (decide (i < (List.length d1 : Int))) (
   grd (gIx i (List.length d1)) <|
   (gq120 ((rdE u4 d1 (Int.toNat i)).1)).bind fun r =>
   cond (!r) (kkr false) (
    (gq59 ((rdE u4 d1 (Int.toNat i)).2.2) (0 : Int) (ByteArray.size (rdE u4 d1 (Int.toNat i)).2.1 : Int)).bind fun r1 =>
    cond (!r1) (kkr false) (
     cond (decide ((ByteArray.size (rdE u4 d1 (Int.toNat i)).2.1 : Int) > (3000 : Int))) (kkr false) (
      cond (decide (i > (0 : Int))) (
       grd (gIx (IntKind.wrap .i64 (i - (1 : Int))) (List.length d1)) <|
       cond (!(sLt (rdE u4 d1 (Int.toNat (IntKind.wrap .i64 (i - (1 : Int))))).1 (rdE u4 d1 (Int.toNat i)).1)) (kkr false) (gq73.l1 kke0 kkr n (IntKind.wrap .i64 (i + (1 : Int))) d d1)) (gq73.l1 kke0 kkr n (IntKind.wrap .i64 (i + (1 : Int))) d d1))))) (kke0 d d1)
theorem gq73.l1_nat (kke0 : Int → List (El u4) → Option R) (kkr : Bool → Option R) : ∀ n i d d1, gq73.l1 (fun y0 y1 => (kke0 y0 y1).bind g) (fun y0 => (kkr y0).bind g) n i d d1 = (gq73.l1 kke0 kkr n i d d1).bind g := by
 intro n
 induction n with
 | zero => intros; rfl
 | succ n ih => intros; simp only [gq73.l1, u6, u9, uc, u7, ih]
def gq73.F {R : Type} (kk : Bool → Option R) (w94 : Int) (w93 : List (El u4)) : Option R :=
 (gq59 w94 (0 : Int) (3000 : Int)).bind fun r =>
 cond (!r) (kk false) (
  cond (decide ((List.length w93 : Int) > (8 : Int))) (kk false) (
   gq73.l1 (fun d d1 =>
    (gq121 d d1).bind fun r1 =>
    kk (decide (r1 ≤ d))) (fun b => kk b) fuel (0 : Int) w94 w93))
theorem gq73.N (kk : Bool → Option R) (w94 w93) : gq73.F (fun y0 => (kk y0).bind g) w94 w93 = (gq73.F kk w94 w93).bind g := by
 simp only [gq73.F, u6, u9, uc, u7, ← gq73.l1_nat]
def gq73 (w94 : Int) (w93 : List (El u4)) : Option Bool := gq73.F (fun y0 => some y0) w94 w93
def gq73.out : Bool → CRes := fun a => ⟨encL SV.enc [.one (.bool)] (a, ()), [encL SC.enc [] ()]⟩
def gq73.ps : List PS := [.val [none, some (u4, false)]]
def gq73.sA : List SA := [.v (.agg [.int .i64, .slv [] u4])]
def gq73.fi : FI := FIs gq73.sA (Bool) (fun t => gq73 t.1.1 t.1.2.1) gq73.out gq73.ps
def gq73.E : Env := ⟨tt, lkF [(59, gq59.fi), (120, gq120.fi), (121, gq121.fi)], 67, 0, [], []⟩
def gq73.sh1 : SK := ⟨[.v (.one (.bptr 0 0)), .v (.one (.int .i64))], [.box [.int .i64, .slv [1] u4]]⟩
def gq73.sh1e0 : SK := ⟨[.v (.one (.bptr 0 0))], [.box [.int .i64, .slv [1] u4]]⟩
def gq73.sh1r : SK := ⟨[.v (.one (.bool))], []⟩
def gq73.ko1 : Ex → List u16 × List Nat
 | .nrm => ([], [])
 | .ret => ([], [2])
 | .ext i => cond (Nat.beq i 0) ([], [1]) ([], [])
def gq73.G1 (n : Nat) (R : Type) (t : gq73.sh1.T) (K : Ex → Kp → Option R) : Option R := gq73.l1 (fun y0 y1 => K (.ext 0) (SK.enc gq73.sh1e0 (((), ()), ((y0, y1, ()), ())))) (fun y0 => K .ret (SK.enc gq73.sh1r ((y0, ()), ()))) n t.1.2.1 t.2.1.1 t.2.1.2.1
def gq73.S1 : Sum := ⟨([], [1, 3]), sumF gq73.sh1 (gq73.G1 fuel), gq73.ko1⟩
theorem gq73.ok1 (hE : EOk Tryz.prog (gq73.E)) : u15 Tryz.prog gq73.E (cB (cR (cL (cR (cR (u5 Tryz.f73)))))) (gq73.S1) := by
 have hh : HintOk Tryz.prog gq73.E (cB (cB (cR (cL (cR (cR (u5 Tryz.f73))))))) (.a) := HintOk.n1 (Q := True) (by kernel_rfl) trivial
 have h := u2a (kin := ([], [1, 3])) (kout := gq73.ko1) (sh := gq73.sh1) (F := gq73.G1) (u1a (hE.gv _)) (by kernel_rfl) hh (fun _ _ _ => rfl) (fun n R t K => by kernel_rfl) fuel
 exact HintOk.n1 (c := (cB (cR (cL (cR (cR (u5 Tryz.f73))))))) (h := .s (gq73.S1)) (P := Tryz.prog) (E := gq73.E) (by kernel_rfl) h
theorem gq73.hok (hE : EOk Tryz.prog (gq73.E)) : HintOk Tryz.prog gq73.E (u5 Tryz.f73) (.n (.a) (.n (.a) (.n (.n (.a) (.b (.s (gq73.S1)))) (.a)))) := HintOk.n1 (Q := (True) ∧ ((True) ∧ (((True) ∧ (u15 Tryz.prog gq73.E (cB (cR (cL (cR (cR (u5 Tryz.f73)))))) (gq73.S1))) ∧ (True)))) (by kernel_rfl) ⟨trivial, ⟨trivial, ⟨⟨trivial, (gq73.ok1 hE)⟩, trivial⟩⟩⟩
theorem gq73.hE : EOk Tryz.prog (gq73.E) := EOk.of ttOk (⟨gq59.fok, ⟨gq120.fok, ⟨gq121.fok, trivial⟩⟩⟩)
theorem gq73.fok : FOk Tryz.prog 73 gq73.fi :=
 fokS (E := gq73.E) (wy := ⟨[[none]], [[]], []⟩) (h := (fun gs => .n (.a) (.n (.a) (.n (.n (.a) (.b (.s (gq73.S1)))) (.a))))) (G := fun t g => gq73.F (fun y0 => g y0) t.1.1 t.1.2.1) (by kernel_rfl) gq73.hE Tryz.func73 (by kernel_rfl) rfl (Nat.le_refl _) (fun t => HintOk.n1 (by kernel_rfl) (gq73.hok gq73.hE)) (fun t g => gq73.N g (fun y0 => some y0) _ _) (fun t => by kernel_rfl)
def gq124.l1 {R : Type} (kke0 : Option R) (kkr : Int → Option R) : Nat → ByteArray → Int → Int → List (El u4) → Option R
 | 0, _, _, _, _ => none
 | n + 1, name, i, d, d1 =>
  cond (decide (i < (List.length d1 : Int))) (
   grd (gIx i (List.length d1)) <|
   cond (sEq (rdE u4 d1 (Int.toNat i)).1 name) (kkr i) (gq124.l1 kke0 kkr n name (IntKind.wrap .i64 (i + (1 : Int))) d d1)) (kke0)
theorem gq124.l1_nat (kke0 : Option R) (kkr : Int → Option R) : ∀ n name i d d1, gq124.l1 (kke0.bind g) (fun y0 => (kkr y0).bind g) n name i d d1 = (gq124.l1 kke0 kkr n name i d d1).bind g := by
 intro n
 induction n with
 | zero => intros; rfl
 | succ n ih => intros; simp only [gq124.l1, u6, u9, uc, u7, ih]
def gq124.F {R : Type} (kk : Int → Option R) (w94 : Int) (w93 : List (El u4)) (name : ByteArray) : Option R :=
 gq124.l1 (kk (-1 : Int)) (fun i => kk i) fuel name (0 : Int) w94 w93
theorem gq124.N (kk : Int → Option R) (w94 w93 name) : gq124.F (fun y0 => (kk y0).bind g) w94 w93 name = (gq124.F kk w94 w93 name).bind g := by
 simp only [gq124.F, u6, u9, uc, u7, ← gq124.l1_nat]
def gq124 (w94 : Int) (w93 : List (El u4)) (name : ByteArray) : Option Int := gq124.F (fun y0 => some y0) w94 w93 name
def gq124.out : Int → CRes := fun a => ⟨encL SV.enc [.one (.int .i64)] (a, ()), [encL SC.enc [] (), encL SC.enc [] ()]⟩
def gq124.ps : List PS := [.val [none, some (u4, false)], .val [none]]
def gq124.sA : List SA := [.v (.agg [.int .i64, .slv [] u4]), .v (.one (.str))]
def gq124.fi : FI := FIs gq124.sA (Int) (fun t => gq124 t.1.1 t.1.2.1 t.2.1) gq124.out gq124.ps
def gq124.E : Env := ⟨tt, lkF [], 22, 0, [], []⟩
def gq124.sh1 : SK := ⟨[.v (.one (.str)), .v (.one (.bptr 0 0)), .v (.one (.int .i64))], [.box [.int .i64, .slv [1] u4]]⟩
def gq124.sh1e0 : SK := ⟨[], []⟩
def gq124.sh1r : SK := ⟨[.v (.one (.int .i64))], []⟩
def gq124.ko1 : Ex → List u16 × List Nat
 | .nrm => ([], [])
 | .ret => ([], [4])
 | .ext i => cond (Nat.beq i 0) ([], []) ([], [])
def gq124.G1 (n : Nat) (R : Type) (t : gq124.sh1.T) (K : Ex → Kp → Option R) : Option R := gq124.l1 (K (.ext 0) (SK.enc gq124.sh1e0 ((), ()))) (fun y0 => K .ret (SK.enc gq124.sh1r ((y0, ()), ()))) n t.1.1 t.1.2.2.1 t.2.1.1 t.2.1.2.1
def gq124.S1 : Sum := ⟨([], [1, 2, 5]), sumF gq124.sh1 (gq124.G1 fuel), gq124.ko1⟩
theorem gq124.ok1 (hE : EOk Tryz.prog (gq124.E)) : u15 Tryz.prog gq124.E (cB (cR (cL (cR (u5 Tryz.f124))))) (gq124.S1) := by
 have hh : HintOk Tryz.prog gq124.E (cB (cB (cR (cL (cR (u5 Tryz.f124)))))) (.a) := HintOk.n1 (Q := True) (by kernel_rfl) trivial
 have h := u2a (kin := ([], [1, 2, 5])) (kout := gq124.ko1) (sh := gq124.sh1) (F := gq124.G1) (u1a (hE.gv _)) (by kernel_rfl) hh (fun _ _ _ => rfl) (fun n R t K => by kernel_rfl) fuel
 exact HintOk.n1 (c := (cB (cR (cL (cR (u5 Tryz.f124)))))) (h := .s (gq124.S1)) (P := Tryz.prog) (E := gq124.E) (by kernel_rfl) h
theorem gq124.hok (hE : EOk Tryz.prog (gq124.E)) : HintOk Tryz.prog gq124.E (u5 Tryz.f124) (.n (.a) (.n (.n (.a) (.b (.s (gq124.S1)))) (.a))) := HintOk.n1 (Q := (True) ∧ (((True) ∧ (u15 Tryz.prog gq124.E (cB (cR (cL (cR (u5 Tryz.f124))))) (gq124.S1))) ∧ (True))) (by kernel_rfl) ⟨trivial, ⟨⟨trivial, (gq124.ok1 hE)⟩, trivial⟩⟩
theorem gq124.hE : EOk Tryz.prog (gq124.E) := EOk.of ttOk (trivial)
theorem gq124.fok : FOk Tryz.prog 124 gq124.fi :=
 fokS (E := gq124.E) (wy := ⟨[[none]], [[], []], []⟩) (h := (fun gs => .n (.a) (.n (.n (.a) (.b (.s (gq124.S1)))) (.a)))) (G := fun t g => gq124.F (fun y0 => g y0) t.1.1 t.1.2.1 t.2.1) (by kernel_rfl) gq124.hE Tryz.func124 (by kernel_rfl) rfl (Nat.le_refl _) (fun t => HintOk.n1 (by kernel_rfl) (gq124.hok gq124.hE)) (fun t g => gq124.N g (fun y0 => some y0) _ _ _) (fun t => by kernel_rfl)
def gq125.j1 {R : Type} (kkn : Bool → Int → Int → List (El u4) → ByteArray → ByteArray → Int → Int → Int → List (El u4) → Option R) (put : Bool) (i : Int) (d : Int) (d1 : List (El u4)) (f : ByteArray) (f1 : ByteArray) (f2 : Int) (i1 : Int) (out : Int) (l : List (El u4)) : Option R :=
 cond (!put) (
  grd (gIx i (List.length d1)) <|
  cond (!(sLt (rdE u4 d1 (Int.toNat i)).1 f)) (
   grd (gRm (((List.length l) + (List.length [(f, (f1, f2))])) * 40)) <|
   kkn true i d d1 f f1 f2 i1 out (l ++ [(f, (f1, f2))])) (kkn put i d d1 f f1 f2 i1 out l)) (kkn put i d d1 f f1 f2 i1 out l)
theorem gq125.j1_nat (kkn : Bool → Int → Int → List (El u4) → ByteArray → ByteArray → Int → Int → Int → List (El u4) → Option R) (put i d d1 f f1 f2 i1 out l) : gq125.j1 (fun y0 y1 y2 y3 y4 y5 y6 y7 y8 y9 => (kkn y0 y1 y2 y3 y4 y5 y6 y7 y8 y9).bind g) put i d d1 f f1 f2 i1 out l = (gq125.j1 kkn put i d d1 f f1 f2 i1 out l).bind g := by
 simp only [gq125.j1, u6, u9, uc, u7]
def gq125.l2 {R : Type} (kke0 : Bool → ByteArray → ByteArray → Int → Int → Int → List (El u4) → Option R) : Nat → Bool → Int → Int → List (El u4) → ByteArray → ByteArray → Int → Int → Int → List (El u4) → Option R
 | 0, _, _, _, _, _, _, _, _, _, _ => none
 | n + 1, put, i, d, d1, f, f1, f2, i1, out, l =>
  cond (decide (i < (List.length d1 : Int))) (
   gq125.j1 (fun put1 i2 d2 d3 f3 f4 f5 i3 out1 l1 =>
    grd (gIx i2 (List.length d3)) <|
    cond (!(sEq (rdE u4 d3 (Int.toNat i2)).1 f3)) (
     grd (gIx i2 (List.length d3)) <|
     grd (gRm (((List.length l1) + (List.length [rdE u4 d3 (Int.toNat i2)])) * 40)) <|
     gq125.l2 kke0 n put1 (IntKind.wrap .i64 (i2 + (1 : Int))) d2 d3 f3 f4 f5 i3 out1 (l1 ++ [rdE u4 d3 (Int.toNat i2)])) (gq125.l2 kke0 n put1 (IntKind.wrap .i64 (i2 + (1 : Int))) d2 d3 f3 f4 f5 i3 out1 l1)) put i d d1 f f1 f2 i1 out l) (kke0 put f f1 f2 i1 out l)
theorem gq125.l2_nat (kke0 : Bool → ByteArray → ByteArray → Int → Int → Int → List (El u4) → Option R) : ∀ n put i d d1 f f1 f2 i1 out l, gq125.l2 (fun y0 y1 y2 y3 y4 y5 y6 => (kke0 y0 y1 y2 y3 y4 y5 y6).bind g) n put i d d1 f f1 f2 i1 out l = (gq125.l2 kke0 n put i d d1 f f1 f2 i1 out l).bind g := by
 intro n
 induction n with
 | zero => intros; rfl
 | succ n ih => intros; simp only [gq125.l2, u6, u9, uc, u7, ← gq125.j1_nat, ih]
def gq125.F {R : Type} (kk : Int → List (El u4) → Option R) (w94 : Int) (w93 : List (El u4)) (wad : ByteArray) (waf : ByteArray) (wb1 : Int) : Option R :=
 gq125.l2 (fun put f f1 f2 i out l =>
  cond (!put) (
   grd (gRm (((List.length l) + (List.length [(f, (f1, f2))])) * 40)) <|
   kk out (l ++ [(f, (f1, f2))])) (kk out l)) fuel false (0 : Int) w94 w93 wad waf wb1 (0 : Int) w94 ([] : List (El u4))
theorem gq125.N (kk : Int → List (El u4) → Option R) (w94 w93 wad waf wb1) : gq125.F (fun y0 y1 => (kk y0 y1).bind g) w94 w93 wad waf wb1 = (gq125.F kk w94 w93 wad waf wb1).bind g := by
 simp only [gq125.F, u6, u9, uc, u7, ← gq125.l2_nat]
def gq125 (w94 : Int) (w93 : List (El u4)) (wad : ByteArray) (waf : ByteArray) (wb1 : Int) : Option (Int × List (El u4)) := gq125.F (fun y0 y1 => some (y0, y1)) w94 w93 wad waf wb1
def gq125.out : (Int × List (El u4)) → CRes := fun a => ⟨encL SV.enc [.agg [.int .i64, .own [] u4 true]] ((a.1, a.2, ()), ()), [encL SC.enc [] (), encL SC.enc [] ()]⟩
def gq125.ps : List PS := [.val [none, some (u4, false)], .val [none, none, none]]
def gq125.sA : List SA := [.v (.agg [.int .i64, .slv [] u4]), .v (.agg [.str, .str, .int .i64])]
def gq125.fi : FI := FIs gq125.sA (Int × List (El u4)) (fun t => gq125 t.1.1 t.1.2.1 t.2.1.1 t.2.1.2.1 t.2.1.2.2.1) gq125.out gq125.ps
def gq125.E : Env := ⟨tt, lkF [], 66, 0, [], []⟩
def gq125.sh1 : SK := ⟨[.v (.one (.bptr 0 0)), .v (.one (.bptr 1 0)), .v (.one (.bptr 2 0)), .v (.one (.bptr 3 0)), .v (.one (.bool)), .v (.one (.int .i64))], [.box [.int .i64, .slv [1] u4], .box [.str, .str, .int .i64], .box [.int .i64, .nil], .box [.int .i64, .slo 4], .arr u4 [] true]⟩
def gq125.sh1n : SK := ⟨[.v (.one (.bptr 0 0)), .v (.one (.bptr 1 0)), .v (.one (.bptr 2 0)), .v (.one (.bptr 3 0)), .v (.one (.bool)), .v (.one (.int .i64))], [.box [.int .i64, .slv [1] u4], .box [.str, .str, .int .i64], .box [.int .i64, .nil], .box [.int .i64, .slo 4], .arr u4 [] true]⟩
def gq125.ko1 : Ex → List u16 × List Nat
 | .nrm => ([], [2, 3, 4, 5, 6, 7])
 | .ret => ([], [])
 | .ext i => ([], [])
def gq125.G1 (R : Type) (t : gq125.sh1.T) (K : Ex → Kp → Option R) : Option R := gq125.j1 (fun y0 y1 y2 y3 y4 y5 y6 y7 y8 y9 => K .nrm (SK.enc gq125.sh1n (((), (), (), (), y0, y1, ()), ((y2, y3, ()), (y4, y5, y6, ()), (y7, (), ()), (y8, (), ()), y9, ())))) t.1.2.2.2.2.1 t.1.2.2.2.2.2.1 t.2.1.1 t.2.1.2.1 t.2.2.1.1 t.2.2.1.2.1 t.2.2.1.2.2.1 t.2.2.2.1.1 t.2.2.2.2.1.1 t.2.2.2.2.2.1
def gq125.S1 : Sum := ⟨([], [2, 3, 4, 5, 6, 7]), sumF gq125.sh1 (gq125.G1), gq125.ko1⟩
theorem gq125.ok1 (hE : EOk Tryz.prog (gq125.E)) : u15 Tryz.prog gq125.E (cL (cB (cL (cR (cB (cB (cR (cL (cR (cR (cR (u5 Tryz.f125)))))))))))) (gq125.S1) := by
 have hh : HintOk Tryz.prog gq125.E (cL (cB (cL (cR (cB (cB (cR (cL (cR (cR (cR (u5 Tryz.f125)))))))))))) (.a) := HintOk.n1 (Q := True) (by kernel_rfl) trivial
 exact sumS (kin := ([], [2, 3, 4, 5, 6, 7])) (kout := gq125.ko1) (sh := gq125.sh1) (F := gq125.G1) (u1a (hE.gv _)) (by kernel_rfl) hh (fun R t K => by kernel_rfl)
def gq125.sh2 : SK := ⟨[.v (.one (.bptr 0 0)), .v (.one (.bptr 1 0)), .v (.one (.bptr 2 0)), .v (.one (.bptr 3 0)), .v (.one (.bool)), .v (.one (.int .i64))], [.box [.int .i64, .slv [1] u4], .box [.str, .str, .int .i64], .box [.int .i64, .nil], .box [.int .i64, .slo 4], .arr u4 [] true]⟩
def gq125.sh2e0 : SK := ⟨[.v (.one (.bptr 0 0)), .v (.one (.bptr 1 0)), .v (.one (.bptr 2 0)), .v (.one (.bool))], [.box [.str, .str, .int .i64], .box [.int .i64, .nil], .box [.int .i64, .slo 3], .arr u4 [] true]⟩
def gq125.ko2 : Ex → List u16 × List Nat
 | .nrm => ([], [])
 | .ret => ([], [])
 | .ext i => cond (Nat.beq i 0) ([], [3, 4, 5, 6]) ([], [])
def gq125.G2 (n : Nat) (R : Type) (t : gq125.sh2.T) (K : Ex → Kp → Option R) : Option R := gq125.l2 (fun y0 y1 y2 y3 y4 y5 y6 => K (.ext 0) (SK.enc gq125.sh2e0 (((), (), (), y0, ()), ((y1, y2, y3, ()), (y4, (), ()), (y5, (), ()), y6, ())))) n t.1.2.2.2.2.1 t.1.2.2.2.2.2.1 t.2.1.1 t.2.1.2.1 t.2.2.1.1 t.2.2.1.2.1 t.2.2.1.2.2.1 t.2.2.2.1.1 t.2.2.2.2.1.1 t.2.2.2.2.2.1
def gq125.S2 : Sum := ⟨([], [2, 3, 4, 5, 6, 7]), sumF gq125.sh2 (gq125.G2 fuel), gq125.ko2⟩
theorem gq125.ok2 (hE : EOk Tryz.prog (gq125.E)) : u15 Tryz.prog gq125.E (cB (cR (cL (cR (cR (cR (u5 Tryz.f125))))))) (gq125.S2) := by
 have hh : HintOk Tryz.prog gq125.E (cB (cB (cR (cL (cR (cR (cR (u5 Tryz.f125)))))))) (.n (.a) (.n (.b (.n (.s (gq125.S1)) (.a))) (.a))) := HintOk.n1 (Q := (True) ∧ (((u15 Tryz.prog gq125.E (cL (cB (cL (cR (cB (cB (cR (cL (cR (cR (cR (u5 Tryz.f125)))))))))))) (gq125.S1)) ∧ (True)) ∧ (True))) (by kernel_rfl) ⟨trivial, ⟨⟨(gq125.ok1 hE), trivial⟩, trivial⟩⟩
 have h := u2a (kin := ([], [2, 3, 4, 5, 6, 7])) (kout := gq125.ko2) (sh := gq125.sh2) (F := gq125.G2) (u1a (hE.gv _)) (by kernel_rfl) hh (fun _ _ _ => rfl) (fun n R t K => by kernel_rfl) fuel
 exact HintOk.n1 (c := (cB (cR (cL (cR (cR (cR (u5 Tryz.f125)))))))) (h := .s (gq125.S2)) (P := Tryz.prog) (E := gq125.E) (by kernel_rfl) h
theorem gq125.hok (hE : EOk Tryz.prog (gq125.E)) : HintOk Tryz.prog gq125.E (u5 Tryz.f125) (.n (.a) (.n (.a) (.n (.a) (.n (.n (.a) (.b (.s (gq125.S2)))) (.a))))) := HintOk.n1 (Q := (True) ∧ ((True) ∧ ((True) ∧ (((True) ∧ (u15 Tryz.prog gq125.E (cB (cR (cL (cR (cR (cR (u5 Tryz.f125))))))) (gq125.S2))) ∧ (True))))) (by kernel_rfl) ⟨trivial, ⟨trivial, ⟨trivial, ⟨⟨trivial, (gq125.ok2 hE)⟩, trivial⟩⟩⟩⟩
theorem gq125.hE : EOk Tryz.prog (gq125.E) := EOk.of ttOk (trivial)
theorem gq125.fok : FOk Tryz.prog 125 gq125.fi :=
 fokS (E := gq125.E) (wy := ⟨[[none, some (u4, true)]], [[], []], []⟩) (h := (fun gs => .n (.a) (.n (.a) (.n (.a) (.n (.n (.a) (.b (.s (gq125.S2)))) (.a)))))) (G := fun t g => gq125.F (fun y0 y1 => g (y0, y1)) t.1.1 t.1.2.1 t.2.1.1 t.2.1.2.1 t.2.1.2.2.1) (by kernel_rfl) gq125.hE Tryz.func125 (by kernel_rfl) rfl (Nat.le_refl _) (fun t => HintOk.n1 (by kernel_rfl) (gq125.hok gq125.hE)) (fun t g => gq125.N g (fun y0 y1 => some (y0, y1)) _ _ _ _ _) (fun t => by kernel_rfl)
def gq122.j1 {R : Type} (kkn : Int → Bool → Int → List (El u4) → Int → Int → ByteArray → ByteArray → ByteArray → List Int → Int → Option R) (k_ : Int) (d : Int) (d1 : List (El u4)) (a : Int) (a1 : Int) (a2 : ByteArray) (a3 : ByteArray) (a4 : ByteArray) (a5 : List Int) (i : Int) : Option R :=
 cond (decide (k_ < (0 : Int))) (kkn k_ ((List.length d1 : Int) == (8 : Int)) d d1 a a1 a2 a3 a4 a5 i) (kkn k_ false d d1 a a1 a2 a3 a4 a5 i)
theorem gq122.j1_nat (kkn : Int → Bool → Int → List (El u4) → Int → Int → ByteArray → ByteArray → ByteArray → List Int → Int → Option R) (k_ d d1 a a1 a2 a3 a4 a5 i) : gq122.j1 (fun y0 y1 y2 y3 y4 y5 y6 y7 y8 y9 y10 => (kkn y0 y1 y2 y3 y4 y5 y6 y7 y8 y9 y10).bind g) k_ d d1 a a1 a2 a3 a4 a5 i = (gq122.j1 kkn k_ d d1 a a1 a2 a3 a4 a5 i).bind g := by
 simp only [gq122.j1, u6, u9, uc, u7]
def gq122.j2 {R : Type} (kkn : Int → List (El u4) → Int → Int → ByteArray → ByteArray → ByteArray → List Int → Int → ByteArray → ByteArray → Int → Option R) (k_ : Int) (d : Int) (d1 : List (El u4)) (a : Int) (a1 : Int) (a2 : ByteArray) (a3 : ByteArray) (a4 : ByteArray) (a5 : List Int) (i : Int) (f : ByteArray) (f1 : ByteArray) (f2 : Int) : Option R :=
 cond (decide (k_ ≥ (0 : Int))) (
  grd (gIx k_ (List.length d1)) <|
  kkn d d1 a a1 a2 a3 a4 a5 i (rdE u4 d1 (Int.toNat k_)).1 (rdE u4 d1 (Int.toNat k_)).2.1 (rdE u4 d1 (Int.toNat k_)).2.2) (kkn d d1 a a1 a2 a3 a4 a5 i f f1 f2)
theorem gq122.j2_nat (kkn : Int → List (El u4) → Int → Int → ByteArray → ByteArray → ByteArray → List Int → Int → ByteArray → ByteArray → Int → Option R) (k_ d d1 a a1 a2 a3 a4 a5 i f f1 f2) : gq122.j2 (fun y0 y1 y2 y3 y4 y5 y6 y7 y8 y9 y10 y11 => (kkn y0 y1 y2 y3 y4 y5 y6 y7 y8 y9 y10 y11).bind g) k_ d d1 a a1 a2 a3 a4 a5 i f f1 f2 = (gq122.j2 kkn k_ d d1 a a1 a2 a3 a4 a5 i f f1 f2).bind g := by
 simp only [gq122.j2, u6, u9, uc, u7]
def gq122.F {R : Type} (kk : Int → List (El u4) → Int → Option R) (w94 : Int) (w93 : List (El u4)) (w9c : Int) (a_N : Int) (w9d : ByteArray) (wa0 : ByteArray) (wa1 : ByteArray) (wa2 : List Int) : Option R :=
 (gq124 w94 w93 w9d).bind fun r =>
 (gq120 w9d).bind fun r1 =>
 cond (!r1) (kk w94 w93 (1 : Int)) (
  gq122.j1 (fun k_ b d d1 a a1 a2 a3 a4 a5 i =>
   cond (b) (kk d d1 (7 : Int)) (
    (gq121 d d1).bind fun r2 =>
    cond (decide ((IntKind.wrap .i64 (r2 + (ByteArray.size a4 : Int))) > d)) (kk d d1 (7 : Int)) (
     gq122.j2 (fun d2 d3 a6 a7 a8 a9 a10 a11 i1 f f1 f2 =>
      grd (gCat f1 a10) <|
      (gq125 d2 d3 f (f1 ++ a10) f2).bind fun r3 =>
      kk r3.1 r3.2 (0 : Int)) k_ d d1 a a1 a2 a3 a4 a5 i a2 ByteArray.empty (0 : Int)))) r w94 w93 w9c a_N w9d wa0 wa1 wa2 (0 : Int))
theorem gq122.N (kk : Int → List (El u4) → Int → Option R) (w94 w93 w9c a_N w9d wa0 wa1 wa2) : gq122.F (fun y0 y1 y2 => (kk y0 y1 y2).bind g) w94 w93 w9c a_N w9d wa0 wa1 wa2 = (gq122.F kk w94 w93 w9c a_N w9d wa0 wa1 wa2).bind g := by
 simp only [gq122.F, u6, u9, uc, u7, ← gq122.j1_nat, ← gq122.j2_nat]
def gq122 (w94 : Int) (w93 : List (El u4)) (w9c : Int) (a_N : Int) (w9d : ByteArray) (wa0 : ByteArray) (wa1 : ByteArray) (wa2 : List Int) : Option (Int × List (El u4) × Int) := gq122.F (fun y0 y1 y2 => some (y0, y1, y2)) w94 w93 w9c a_N w9d wa0 wa1 wa2
def gq122.out : (Int × List (El u4) × Int) → CRes := fun a => ⟨encL SV.enc [.agg [.int .i64, .slv [0, 1] u4], .one (.int .i64)] ((a.1, a.2.1, ()), a.2.2, ()), [encL SC.enc [] (), encL SC.enc [] ()]⟩
def gq122.ps : List PS := [.val [none, some (u4, false)], .val [none, none, none, none, none, some ((.int .i64), false)]]
def gq122.sA : List SA := [.v (.agg [.int .i64, .slv [] u4]), .v (.agg [.int .i64, .int .i64, .str, .str, .str, .slv [] (.int .i64)])]
def gq122.fi : FI := FIs gq122.sA (Int × List (El u4) × Int) (fun t => gq122 t.1.1 t.1.2.1 t.2.1.1 t.2.1.2.1 t.2.1.2.2.1 t.2.1.2.2.2.1 t.2.1.2.2.2.2.1 t.2.1.2.2.2.2.2.1) gq122.out gq122.ps
def gq122.E : Env := ⟨tt, lkF [(120, gq120.fi), (121, gq121.fi), (124, gq124.fi), (125, gq125.fi)], 58, 0, [], []⟩
def gq122.sh1 : SK := ⟨[.v (.one (.bptr 0 0)), .v (.one (.bptr 1 0)), .v (.one (.bptr 2 0)), .v (.one (.int .i64))], [.box [.int .i64, .slv [1] u4], .box [.int .i64, .int .i64, .str, .str, .str, .slv [2] (.int .i64)], .box [.int .i64, .nil]]⟩
def gq122.sh1n : SK := ⟨[.v (.one (.bptr 0 0)), .v (.one (.bptr 1 0)), .v (.one (.bptr 2 0)), .v (.one (.int .i64)), .v (.one (.bool))], [.box [.int .i64, .slv [1] u4], .box [.int .i64, .int .i64, .str, .str, .str, .slv [2] (.int .i64)], .box [.int .i64, .nil]]⟩
def gq122.ko1 : Ex → List u16 × List Nat
 | .nrm => ([], [2, 3, 4, 6, 18])
 | .ret => ([], [])
 | .ext i => ([], [])
def gq122.G1 (R : Type) (t : gq122.sh1.T) (K : Ex → Kp → Option R) : Option R := gq122.j1 (fun y0 y1 y2 y3 y4 y5 y6 y7 y8 y9 y10 => K .nrm (SK.enc gq122.sh1n (((), (), (), y0, y1, ()), ((y2, y3, ()), (y4, y5, y6, y7, y8, y9, ()), (y10, (), ()), ())))) t.1.2.2.2.1 t.2.1.1 t.2.1.2.1 t.2.2.1.1 t.2.2.1.2.1 t.2.2.1.2.2.1 t.2.2.1.2.2.2.1 t.2.2.1.2.2.2.2.1 t.2.2.1.2.2.2.2.2.1 t.2.2.2.1.1
def gq122.S1 : Sum := ⟨([], [2, 3, 4, 6]), sumF gq122.sh1 (gq122.G1), gq122.ko1⟩
theorem gq122.ok1 (hE : EOk Tryz.prog (gq122.E)) : u15 Tryz.prog gq122.E (cL (cR (cR (cB (cL (cR (cR (u5 Tryz.f122)))))))) (gq122.S1) := by
 have hh : HintOk Tryz.prog gq122.E (cL (cR (cR (cB (cL (cR (cR (u5 Tryz.f122)))))))) (.a) := HintOk.n1 (Q := True) (by kernel_rfl) trivial
 exact sumS (kin := ([], [2, 3, 4, 6])) (kout := gq122.ko1) (sh := gq122.sh1) (F := gq122.G1) (u1a (hE.gv _)) (by kernel_rfl) hh (fun R t K => by kernel_rfl)
def gq122.sh2 : SK := ⟨[.v (.one (.bptr 0 0)), .v (.one (.bptr 1 0)), .v (.one (.bptr 2 0)), .v (.one (.int .i64)), .v (.one (.bptr 3 0))], [.box [.int .i64, .slv [1] u4], .box [.int .i64, .int .i64, .str, .str, .str, .slv [2] (.int .i64)], .box [.int .i64, .nil], .box [.str, .str, .int .i64]]⟩
def gq122.sh2n : SK := ⟨[.v (.one (.bptr 0 0)), .v (.one (.bptr 1 0)), .v (.one (.bptr 2 0)), .v (.one (.bptr 3 0))], [.box [.int .i64, .slv [1] u4], .box [.int .i64, .int .i64, .str, .str, .str, .slv [2] (.int .i64)], .box [.int .i64, .nil], .box [.str, .str, .int .i64]]⟩
def gq122.ko2 : Ex → List u16 × List Nat
 | .nrm => ([], [2, 3, 4, 7])
 | .ret => ([], [])
 | .ext i => ([], [])
def gq122.G2 (R : Type) (t : gq122.sh2.T) (K : Ex → Kp → Option R) : Option R := gq122.j2 (fun y0 y1 y2 y3 y4 y5 y6 y7 y8 y9 y10 y11 => K .nrm (SK.enc gq122.sh2n (((), (), (), (), ()), ((y0, y1, ()), (y2, y3, y4, y5, y6, y7, ()), (y8, (), ()), (y9, y10, y11, ()), ())))) t.1.2.2.2.1 t.2.1.1 t.2.1.2.1 t.2.2.1.1 t.2.2.1.2.1 t.2.2.1.2.2.1 t.2.2.1.2.2.2.1 t.2.2.1.2.2.2.2.1 t.2.2.1.2.2.2.2.2.1 t.2.2.2.1.1 t.2.2.2.2.1.1 t.2.2.2.2.1.2.1 t.2.2.2.2.1.2.2.1
def gq122.S2 : Sum := ⟨([], [2, 3, 4, 6, 7]), sumF gq122.sh2 (gq122.G2), gq122.ko2⟩
theorem gq122.ok2 (hE : EOk Tryz.prog (gq122.E)) : u15 Tryz.prog gq122.E (cL (cR (cR (cR (cR (u5 Tryz.f122)))))) (gq122.S2) := by
 have hh : HintOk Tryz.prog gq122.E (cL (cR (cR (cR (cR (u5 Tryz.f122)))))) (.a) := HintOk.n1 (Q := True) (by kernel_rfl) trivial
 exact sumS (kin := ([], [2, 3, 4, 6, 7])) (kout := gq122.ko2) (sh := gq122.sh2) (F := gq122.G2) (u1a (hE.gv _)) (by kernel_rfl) hh (fun R t K => by kernel_rfl)
theorem gq122.hok (hE : EOk Tryz.prog (gq122.E)) : HintOk Tryz.prog gq122.E (u5 Tryz.f122) (.n (.a) (.n (.a) (.n (.b (.n (.a) (.n (.a) (.n (.s (gq122.S1)) (.a))))) (.n (.a) (.n (.s (gq122.S2)) (.a)))))) := HintOk.n1 (Q := (True) ∧ ((True) ∧ (((True) ∧ ((True) ∧ ((u15 Tryz.prog gq122.E (cL (cR (cR (cB (cL (cR (cR (u5 Tryz.f122)))))))) (gq122.S1)) ∧ (True)))) ∧ ((True) ∧ ((u15 Tryz.prog gq122.E (cL (cR (cR (cR (cR (u5 Tryz.f122)))))) (gq122.S2)) ∧ (True)))))) (by kernel_rfl) ⟨trivial, ⟨trivial, ⟨⟨trivial, ⟨trivial, ⟨(gq122.ok1 hE), trivial⟩⟩⟩, ⟨trivial, ⟨(gq122.ok2 hE), trivial⟩⟩⟩⟩⟩
theorem gq122.hE : EOk Tryz.prog (gq122.E) := EOk.of ttOk (⟨gq120.fok, ⟨gq121.fok, ⟨gq124.fok, ⟨gq125.fok, trivial⟩⟩⟩⟩)
theorem gq122.fok : FOk Tryz.prog 122 gq122.fi :=
 fokS (E := gq122.E) (wy := ⟨[[none, some (u4, false)], [none]], [[], []], [⟨4, true, 1, .slv [0, 1] u4⟩]⟩) (h := (fun gs => .n (.a) (.n (.a) (.n (.b (.n (.a) (.n (.a) (.n (.s (gq122.S1)) (.a))))) (.n (.a) (.n (.s (gq122.S2)) (.a))))))) (G := fun t g => gq122.F (fun y0 y1 y2 => g (y0, y1, y2)) t.1.1 t.1.2.1 t.2.1.1 t.2.1.2.1 t.2.1.2.2.1 t.2.1.2.2.2.1 t.2.1.2.2.2.2.1 t.2.1.2.2.2.2.2.1) (by kernel_rfl) gq122.hE Tryz.func122 (by kernel_rfl) rfl (Nat.le_refl _) (fun t => HintOk.n1 (by kernel_rfl) (gq122.hok gq122.hE)) (fun t g => gq122.N g (fun y0 y1 y2 => some (y0, y1, y2)) _ _ _ _ _ _ _ _) (fun t => by kernel_rfl)
def gq123.j1 {R : Type} (kkn : List Int → Int → Nat → Int → Int → Int → List (El u4) → Option R) (keep : List Int) (i : Int) (f : Nat) (n_ : Int) (i1 : Int) (out : Int) (f1 : List (El u4)) : Option R :=
 cond (decide (i < (List.length keep : Int))) (
  grd (gIx i (List.length keep)) <|
  kkn keep i f (mx2 (rdE u4 f1 f).2.2 (mn2 (ByteArray.size (rdE u4 f1 f).2.1 : Int) (IntKind.wrap .i64 ((rdE u4 f1 f).2.2 + (mn2 (3000 : Int) (rdE (.int .i64 : Kd) keep (Int.toNat i))))))) i1 out f1) (kkn keep i f n_ i1 out f1)
theorem gq123.j1_nat (kkn : List Int → Int → Nat → Int → Int → Int → List (El u4) → Option R) (keep i f n_ i1 out f1) : gq123.j1 (fun y0 y1 y2 y3 y4 y5 y6 => (kkn y0 y1 y2 y3 y4 y5 y6).bind g) keep i f n_ i1 out f1 = (gq123.j1 kkn keep i f n_ i1 out f1).bind g := by
 simp only [gq123.j1, u6, u9, uc, u7]
def gq123.l2 {R : Type} (kke0 : Int → Int → List (El u4) → Option R) : Nat → List Int → Int → Int → Int → List (El u4) → Option R
 | 0, _, _, _, _, _ => none
 | n + 1, keep, i, i1, out, l =>
  cond (decide (i < (List.length l : Int))) (
   grd (gIx i (List.length l)) <|
   gq123.j1 (fun keep1 i2 f n_ i3 out1 f1 =>
    grd (gSl (0 : Int) n_ (ByteArray.size (rdE u4 f1 f).2.1)) <|
    gq123.l2 kke0 n keep1 (IntKind.wrap .i64 (i2 + (1 : Int))) i3 out1 (setE u4 (setE u4 f1 f ((rdE u4 f1 f).1, (cut (rdE u4 f1 f).2.1 (0 : Int) n_, (rdE u4 f1 f).2.2))) f ((rdE u4 (setE u4 f1 f ((rdE u4 f1 f).1, (cut (rdE u4 f1 f).2.1 (0 : Int) n_, (rdE u4 f1 f).2.2))) f).1, ((rdE u4 (setE u4 f1 f ((rdE u4 f1 f).1, (cut (rdE u4 f1 f).2.1 (0 : Int) n_, (rdE u4 f1 f).2.2))) f).2.1, n_)))) keep i (Int.toNat i) (rdE u4 l (Int.toNat i)).2.2 i1 out l) (kke0 i1 out l)
theorem gq123.l2_nat (kke0 : Int → Int → List (El u4) → Option R) : ∀ n keep i i1 out l, gq123.l2 (fun y0 y1 y2 => (kke0 y0 y1 y2).bind g) n keep i i1 out l = (gq123.l2 kke0 n keep i i1 out l).bind g := by
 intro n
 induction n with
 | zero => intros; rfl
 | succ n ih => intros; simp only [gq123.l2, u6, u9, uc, u7, ← gq123.j1_nat, ih]
def gq123.F {R : Type} (kk : Int → List (El u4) → Option R) (w94 : Int) (w93 : List (El u4)) (keep : List Int) : Option R :=
 (gq50 w94 w93).bind fun r =>
 gq123.l2 (fun i out l => kk out l) fuel keep (0 : Int) (0 : Int) r.1 r.2
theorem gq123.N (kk : Int → List (El u4) → Option R) (w94 w93 keep) : gq123.F (fun y0 y1 => (kk y0 y1).bind g) w94 w93 keep = (gq123.F kk w94 w93 keep).bind g := by
 simp only [gq123.F, u6, u9, uc, u7, ← gq123.l2_nat]
def gq123 (w94 : Int) (w93 : List (El u4)) (keep : List Int) : Option (Int × List (El u4)) := gq123.F (fun y0 y1 => some (y0, y1)) w94 w93 keep
def gq123.out : (Int × List (El u4)) → CRes := fun a => ⟨encL SV.enc [.agg [.int .i64, .own [] u4 true]] ((a.1, a.2, ()), ()), [encL SC.enc [] (), encL SC.enc [] ()]⟩
def gq123.ps : List PS := [.val [none, some (u4, false)], .val [some ((.int .i64), false)]]
def gq123.sA : List SA := [.v (.agg [.int .i64, .slv [] u4]), .v (.one (.slv [] (.int .i64)))]
def gq123.fi : FI := FIs gq123.sA (Int × List (El u4)) (fun t => gq123 t.1.1 t.1.2.1 t.2.1) gq123.out gq123.ps
def gq123.E : Env := ⟨tt, lkF [(50, gq50.fi)], 65, 0, [], []⟩
def gq123.sh1 : SK := ⟨[.v (.one (.slv [2] (.int .i64))), .v (.one (.bptr 0 0)), .v (.one (.bptr 1 0)), .v (.one (.int .i64)), .v (.one (.eptr 2 3 0)), .v (.one (.int .i64))], [.box [.int .i64, .nil], .box [.int .i64, .slo 2], .arr u4 [] true]⟩
def gq123.sh1n : SK := ⟨[.v (.one (.slv [2] (.int .i64))), .v (.one (.bptr 0 0)), .v (.one (.bptr 1 0)), .v (.one (.int .i64)), .v (.one (.eptr 2 3 0)), .v (.one (.int .i64))], [.box [.int .i64, .nil], .box [.int .i64, .slo 2], .arr u4 [] true]⟩
def gq123.ko1 : Ex → List u16 × List Nat
 | .nrm => ([], [1, 4, 5, 6, 7, 8])
 | .ret => ([], [])
 | .ext i => ([], [])
def gq123.G1 (R : Type) (t : gq123.sh1.T) (K : Ex → Kp → Option R) : Option R := gq123.j1 (fun y0 y1 y2 y3 y4 y5 y6 => K .nrm (SK.enc gq123.sh1n ((y0, (), (), y1, y2, y3, ()), ((y4, (), ()), (y5, (), ()), y6, ())))) t.1.1 t.1.2.2.2.1 t.1.2.2.2.2.1 t.1.2.2.2.2.2.1 t.2.1.1 t.2.2.1.1 t.2.2.2.1
def gq123.S1 : Sum := ⟨([], [1, 4, 5, 6, 7, 8]), sumF gq123.sh1 (gq123.G1), gq123.ko1⟩
theorem gq123.ok1 (hE : EOk Tryz.prog (gq123.E)) : u15 Tryz.prog gq123.E (cL (cR (cR (cB (cL (cR (cB (cB (cR (cL (cR (cR (u5 Tryz.f123))))))))))))) (gq123.S1) := by
 have hh : HintOk Tryz.prog gq123.E (cL (cR (cR (cB (cL (cR (cB (cB (cR (cL (cR (cR (u5 Tryz.f123))))))))))))) (.a) := HintOk.n1 (Q := True) (by kernel_rfl) trivial
 exact sumS (kin := ([], [1, 4, 5, 6, 7, 8])) (kout := gq123.ko1) (sh := gq123.sh1) (F := gq123.G1) (u1a (hE.gv _)) (by kernel_rfl) hh (fun R t K => by kernel_rfl)
def gq123.sh2 : SK := ⟨[.v (.one (.slv [2] (.int .i64))), .v (.one (.bptr 0 0)), .v (.one (.bptr 1 0)), .v (.one (.int .i64))], [.box [.int .i64, .nil], .box [.int .i64, .slo 2], .arr u4 [] true]⟩
def gq123.sh2e0 : SK := ⟨[.v (.one (.bptr 0 0)), .v (.one (.bptr 1 0))], [.box [.int .i64, .nil], .box [.int .i64, .slo 2], .arr u4 [] true]⟩
def gq123.ko2 : Ex → List u16 × List Nat
 | .nrm => ([], [])
 | .ret => ([], [])
 | .ext i => cond (Nat.beq i 0) ([], [4, 5]) ([], [])
def gq123.G2 (n : Nat) (R : Type) (t : gq123.sh2.T) (K : Ex → Kp → Option R) : Option R := gq123.l2 (fun y0 y1 y2 => K (.ext 0) (SK.enc gq123.sh2e0 (((), (), ()), ((y0, (), ()), (y1, (), ()), y2, ())))) n t.1.1 t.1.2.2.2.1 t.2.1.1 t.2.2.1.1 t.2.2.2.1
def gq123.S2 : Sum := ⟨([], [1, 4, 5, 6]), sumF gq123.sh2 (gq123.G2 fuel), gq123.ko2⟩
theorem gq123.ok2 (hE : EOk Tryz.prog (gq123.E)) : u15 Tryz.prog gq123.E (cB (cR (cL (cR (cR (u5 Tryz.f123)))))) (gq123.S2) := by
 have hh : HintOk Tryz.prog gq123.E (cB (cB (cR (cL (cR (cR (u5 Tryz.f123))))))) (.n (.a) (.n (.b (.n (.a) (.n (.a) (.n (.s (gq123.S1)) (.a))))) (.a))) := HintOk.n1 (Q := (True) ∧ (((True) ∧ ((True) ∧ ((u15 Tryz.prog gq123.E (cL (cR (cR (cB (cL (cR (cB (cB (cR (cL (cR (cR (u5 Tryz.f123))))))))))))) (gq123.S1)) ∧ (True)))) ∧ (True))) (by kernel_rfl) ⟨trivial, ⟨⟨trivial, ⟨trivial, ⟨(gq123.ok1 hE), trivial⟩⟩⟩, trivial⟩⟩
 have h := u2a (kin := ([], [1, 4, 5, 6])) (kout := gq123.ko2) (sh := gq123.sh2) (F := gq123.G2) (u1a (hE.gv _)) (by kernel_rfl) hh (fun _ _ _ => rfl) (fun n R t K => by kernel_rfl) fuel
 exact HintOk.n1 (c := (cB (cR (cL (cR (cR (u5 Tryz.f123))))))) (h := .s (gq123.S2)) (P := Tryz.prog) (E := gq123.E) (by kernel_rfl) h
theorem gq123.hok (hE : EOk Tryz.prog (gq123.E)) : HintOk Tryz.prog gq123.E (u5 Tryz.f123) (.n (.a) (.n (.a) (.n (.n (.a) (.b (.s (gq123.S2)))) (.a)))) := HintOk.n1 (Q := (True) ∧ ((True) ∧ (((True) ∧ (u15 Tryz.prog gq123.E (cB (cR (cL (cR (cR (u5 Tryz.f123)))))) (gq123.S2))) ∧ (True)))) (by kernel_rfl) ⟨trivial, ⟨trivial, ⟨⟨trivial, (gq123.ok2 hE)⟩, trivial⟩⟩⟩
theorem gq123.hE : EOk Tryz.prog (gq123.E) := EOk.of ttOk (⟨gq50.fok, trivial⟩)
theorem gq123.fok : FOk Tryz.prog 123 gq123.fi :=
 fokS (E := gq123.E) (wy := ⟨[[none, some (u4, true)]], [[], []], []⟩) (h := (fun gs => .n (.a) (.n (.a) (.n (.n (.a) (.b (.s (gq123.S2)))) (.a))))) (G := fun t g => gq123.F (fun y0 y1 => g (y0, y1)) t.1.1 t.1.2.1 t.2.1) (by kernel_rfl) gq123.hE Tryz.func123 (by kernel_rfl) rfl (Nat.le_refl _) (fun t => HintOk.n1 (by kernel_rfl) (gq123.hok gq123.hE)) (fun t g => gq123.N g (fun y0 y1 => some (y0, y1)) _ _ _) (fun t => by kernel_rfl)
def gq126.F {R : Type} (kk : Int → List (El u4) → Option R) (w94 : Int) (w93 : List (El u4)) (k_ : Int) : Option R :=
 grd (gSl (0 : Int) k_ (List.length w93)) <|
 grd (gRm (((List.length ([] : List (El u4))) + (List.length (sub w93 (0 : Int) k_))) * 40)) <|
 grd (gSl (IntKind.wrap .i64 (k_ + (1 : Int))) (List.length w93 : Int) (List.length w93)) <|
 grd (gRm (((List.length (([] : List (El u4)) ++ (sub w93 (0 : Int) k_))) + (List.length (sub w93 (IntKind.wrap .i64 (k_ + (1 : Int))) (List.length w93 : Int)))) * 40)) <|
 kk w94 ((([] : List (El u4)) ++ (sub w93 (0 : Int) k_)) ++ (sub w93 (IntKind.wrap .i64 (k_ + (1 : Int))) (List.length w93 : Int)))
theorem gq126.N (kk : Int → List (El u4) → Option R) (w94 w93 k_) : gq126.F (fun y0 y1 => (kk y0 y1).bind g) w94 w93 k_ = (gq126.F kk w94 w93 k_).bind g := by
 simp only [gq126.F, u6, u9, uc, u7]
def gq126 (w94 : Int) (w93 : List (El u4)) (k_ : Int) : Option (Int × List (El u4)) := gq126.F (fun y0 y1 => some (y0, y1)) w94 w93 k_
def gq126.out : (Int × List (El u4)) → CRes := fun a => ⟨encL SV.enc [.agg [.int .i64, .own [] u4 true]] ((a.1, a.2, ()), ()), [encL SC.enc [] (), encL SC.enc [] ()]⟩
def gq126.ps : List PS := [.val [none, some (u4, false)], .val [none]]
def gq126.sA : List SA := [.v (.agg [.int .i64, .slv [] u4]), .v (.one (.int .i64))]
def gq126.fi : FI := FIs gq126.sA (Int × List (El u4)) (fun t => gq126 t.1.1 t.1.2.1 t.2.1) gq126.out gq126.ps
def gq126.E : Env := ⟨tt, lkF [], 20, 0, [], []⟩
theorem gq126.hok (hE : EOk Tryz.prog (gq126.E)) : HintOk Tryz.prog gq126.E (u5 Tryz.f126) (.a) := HintOk.n1 (Q := True) (by kernel_rfl) trivial
theorem gq126.hE : EOk Tryz.prog (gq126.E) := EOk.of ttOk (trivial)
theorem gq126.fok : FOk Tryz.prog 126 gq126.fi :=
 fokS (E := gq126.E) (wy := ⟨[[none, some (u4, true)]], [[], []], []⟩) (h := (fun gs => .a)) (G := fun t g => gq126.F (fun y0 y1 => g (y0, y1)) t.1.1 t.1.2.1 t.2.1) (by kernel_rfl) gq126.hE Tryz.func126 (by kernel_rfl) rfl (Nat.le_refl _) (fun t => HintOk.n1 (by kernel_rfl) (gq126.hok gq126.hE)) (fun t g => gq126.N g (fun y0 y1 => some (y0, y1)) _ _ _) (fun t => by kernel_rfl)
def gq74.j1 {R : Type} (kkn : Int → List (El u4) → Int → Int → ByteArray → ByteArray → ByteArray → List Int → Int → Option R) (kkr : Int → Int → List (El u4) → Option R) (d : Int) (d1 : List (El u4)) (a : Int) (a1 : Int) (a2 : ByteArray) (a3 : ByteArray) (a4 : ByteArray) (a5 : List Int) (i : Int) : Option R :=
 cond (a == (1 : Int)) (
  (gq122 d d1 a a1 a2 a3 a4 a5).bind fun r =>
  kkr r.2.2 r.1 r.2.1) (
  cond (a == (5 : Int)) (
   (gq123 d d1 a5).bind fun r1 =>
   kkr (0 : Int) r1.1 r1.2) (
   cond (a == (2 : Int)) (kkn d d1 a a1 a2 a3 a4 a5 i) (
    cond (a == (3 : Int)) (kkn d d1 a a1 a2 a3 a4 a5 i) (
     cond (a == (4 : Int)) (kkn d d1 a a1 a2 a3 a4 a5 i) (cond (a == (6 : Int)) (kkn d d1 a a1 a2 a3 a4 a5 i) (kkr (3 : Int) d d1))))))
theorem gq74.j1_nat (kkn : Int → List (El u4) → Int → Int → ByteArray → ByteArray → ByteArray → List Int → Int → Option R) (kkr : Int → Int → List (El u4) → Option R) (d d1 a a1 a2 a3 a4 a5 i) : gq74.j1 (fun y0 y1 y2 y3 y4 y5 y6 y7 y8 => (kkn y0 y1 y2 y3 y4 y5 y6 y7 y8).bind g) (fun y0 y1 y2 => (kkr y0 y1 y2).bind g) d d1 a a1 a2 a3 a4 a5 i = (gq74.j1 kkn kkr d d1 a a1 a2 a3 a4 a5 i).bind g := by
 simp only [gq74.j1, u6, u9, uc, u7]
def gq74.F {R : Type} (kk : Int → List (El u4) → Int → Option R) (w94 : Int) (w93 : List (El u4)) (w9c : Int) (a_N : Int) (w9d : ByteArray) (wa0 : ByteArray) (wa1 : ByteArray) (wa2 : List Int) : Option R :=
 gq74.j1 (fun d d1 a a1 a2 a3 a4 a5 i =>
  (gq124 d d1 a2).bind fun r =>
  cond (decide (r < (0 : Int))) (kk d d1 (5 : Int)) (
   grd (gIx r (List.length d1)) <|
   cond (a == (2 : Int)) (
    (gq125 d d1 ((rdE u4 d1 (Int.toNat r)).1) ((rdE u4 d1 (Int.toNat r)).2.1) (ByteArray.size (rdE u4 d1 (Int.toNat r)).2.1 : Int)).bind fun r1 =>
    kk r1.1 r1.2 (0 : Int)) (
    cond (a == (4 : Int)) (
     (gq126 d d1 r).bind fun r2 =>
     kk r2.1 r2.2 (0 : Int)) (
     cond (a == (6 : Int)) (
      (gq59 a1 (0 : Int) (ByteArray.size (rdE u4 d1 (Int.toNat r)).2.1 : Int)).bind fun r3 =>
      cond (!r3) (kk d d1 (4 : Int)) (
       grd (gSl (0 : Int) a1 (ByteArray.size (rdE u4 d1 (Int.toNat r)).2.1)) <|
       (gq125 d d1 ((rdE u4 d1 (Int.toNat r)).1) (cut (rdE u4 d1 (Int.toNat r)).2.1 (0 : Int) a1) (mn2 (rdE u4 d1 (Int.toNat r)).2.2 a1)).bind fun r4 =>
       kk r4.1 r4.2 (0 : Int))) (
      (gq120 a3).bind fun r5 =>
      cond (!r5) (kk d d1 (1 : Int)) (
       (gq126 d d1 r).bind fun r6 =>
       (gq125 r6.1 r6.2 a3 ((rdE u4 d1 (Int.toNat r)).2.1) ((rdE u4 d1 (Int.toNat r)).2.2)).bind fun r7 =>
       kk r7.1 r7.2 (0 : Int))))))) (fun i1 i2 l => kk i2 l i1) w94 w93 w9c a_N w9d wa0 wa1 wa2 (0 : Int)
theorem gq74.N (kk : Int → List (El u4) → Int → Option R) (w94 w93 w9c a_N w9d wa0 wa1 wa2) : gq74.F (fun y0 y1 y2 => (kk y0 y1 y2).bind g) w94 w93 w9c a_N w9d wa0 wa1 wa2 = (gq74.F kk w94 w93 w9c a_N w9d wa0 wa1 wa2).bind g := by
 simp only [gq74.F, u6, u9, uc, u7, ← gq74.j1_nat]
def gq74 (w94 : Int) (w93 : List (El u4)) (w9c : Int) (a_N : Int) (w9d : ByteArray) (wa0 : ByteArray) (wa1 : ByteArray) (wa2 : List Int) : Option (Int × List (El u4) × Int) := gq74.F (fun y0 y1 y2 => some (y0, y1, y2)) w94 w93 w9c a_N w9d wa0 wa1 wa2
def gq74.out : (Int × List (El u4) × Int) → CRes := fun a => ⟨encL SV.enc [.agg [.int .i64, .slv [0, 1] u4], .one (.int .i64)] ((a.1, a.2.1, ()), a.2.2, ()), [encL SC.enc [] (), encL SC.enc [] ()]⟩
def gq74.ps : List PS := [.val [none, some (u4, false)], .val [none, none, none, none, none, some ((.int .i64), false)]]
def gq74.sA : List SA := [.v (.agg [.int .i64, .slv [] u4]), .v (.agg [.int .i64, .int .i64, .str, .str, .str, .slv [] (.int .i64)])]
def gq74.fi : FI := FIs gq74.sA (Int × List (El u4) × Int) (fun t => gq74 t.1.1 t.1.2.1 t.2.1.1 t.2.1.2.1 t.2.1.2.2.1 t.2.1.2.2.2.1 t.2.1.2.2.2.2.1 t.2.1.2.2.2.2.2.1) gq74.out gq74.ps
def gq74.E : Env := ⟨tt, lkF [(59, gq59.fi), (120, gq120.fi), (122, gq122.fi), (123, gq123.fi), (124, gq124.fi), (125, gq125.fi), (126, gq126.fi)], 95, 0, [], []⟩
def gq74.sh1 : SK := ⟨[.v (.one (.bptr 0 0)), .v (.one (.bptr 1 0)), .v (.one (.bptr 2 0))], [.box [.int .i64, .slv [1] u4], .box [.int .i64, .int .i64, .str, .str, .str, .slv [2] (.int .i64)], .box [.int .i64, .nil]]⟩
def gq74.sh1n : SK := ⟨[.v (.one (.bptr 0 0)), .v (.one (.bptr 1 0)), .v (.one (.bptr 2 0))], [.box [.int .i64, .slv [1] u4], .box [.int .i64, .int .i64, .str, .str, .str, .slv [2] (.int .i64)], .box [.int .i64, .nil]]⟩
def gq74.sh1r : SK := ⟨[.v (.one (.bptr 0 0)), .v (.one (.int .i64))], [.box [.int .i64, .slv [0, 1] u4]]⟩
def gq74.ko1 : Ex → List u16 × List Nat
 | .nrm => ([], [2, 3, 4])
 | .ret => ([⟨4, true, 1, .slv [0, 1] u4⟩], [4, 5])
 | .ext i => ([], [])
def gq74.G1 (R : Type) (t : gq74.sh1.T) (K : Ex → Kp → Option R) : Option R := gq74.j1 (fun y0 y1 y2 y3 y4 y5 y6 y7 y8 => K .nrm (SK.enc gq74.sh1n (((), (), (), ()), ((y0, y1, ()), (y2, y3, y4, y5, y6, y7, ()), (y8, (), ()), ())))) (fun y0 y1 y2 => K .ret (SK.enc gq74.sh1r (((), y0, ()), ((y1, y2, ()), ())))) t.2.1.1 t.2.1.2.1 t.2.2.1.1 t.2.2.1.2.1 t.2.2.1.2.2.1 t.2.2.1.2.2.2.1 t.2.2.1.2.2.2.2.1 t.2.2.1.2.2.2.2.2.1 t.2.2.2.1.1
def gq74.S1 : Sum := ⟨([], [2, 3, 4]), sumF gq74.sh1 (gq74.G1), gq74.ko1⟩
theorem gq74.ok1 (hE : EOk Tryz.prog (gq74.E)) : u15 Tryz.prog gq74.E (cL (cR (u5 Tryz.f74))) (gq74.S1) := by
 have hh : HintOk Tryz.prog gq74.E (cL (cR (u5 Tryz.f74))) (.a) := HintOk.n1 (Q := True) (by kernel_rfl) trivial
 exact sumS (kin := ([], [2, 3, 4])) (kout := gq74.ko1) (sh := gq74.sh1) (F := gq74.G1) (u1a (hE.gv _)) (by kernel_rfl) hh (fun R t K => by kernel_rfl)
theorem gq74.hok (hE : EOk Tryz.prog (gq74.E)) : HintOk Tryz.prog gq74.E (u5 Tryz.f74) (.n (.a) (.n (.s (gq74.S1)) (.a))) := HintOk.n1 (Q := (True) ∧ ((u15 Tryz.prog gq74.E (cL (cR (u5 Tryz.f74))) (gq74.S1)) ∧ (True))) (by kernel_rfl) ⟨trivial, ⟨(gq74.ok1 hE), trivial⟩⟩
theorem gq74.hE : EOk Tryz.prog (gq74.E) := EOk.of ttOk (⟨gq59.fok, ⟨gq120.fok, ⟨gq122.fok, ⟨gq123.fok, ⟨gq124.fok, ⟨gq125.fok, ⟨gq126.fok, trivial⟩⟩⟩⟩⟩⟩⟩)
theorem gq74.fok : FOk Tryz.prog 74 gq74.fi :=
 fokS (E := gq74.E) (wy := ⟨[[none, some (u4, false)], [none]], [[], []], [⟨4, true, 1, .slv [0, 1] u4⟩]⟩) (h := (fun gs => .n (.a) (.n (.s (gq74.S1)) (.a)))) (G := fun t g => gq74.F (fun y0 y1 y2 => g (y0, y1, y2)) t.1.1 t.1.2.1 t.2.1.1 t.2.1.2.1 t.2.1.2.2.1 t.2.1.2.2.2.1 t.2.1.2.2.2.2.1 t.2.1.2.2.2.2.2.1) (by kernel_rfl) gq74.hE Tryz.func74 (by kernel_rfl) rfl (Nat.le_refl _) (fun t => HintOk.n1 (by kernel_rfl) (gq74.hok gq74.hE)) (fun t g => gq74.N g (fun y0 y1 y2 => some (y0, y1, y2)) _ _ _ _ _ _ _ _) (fun t => by kernel_rfl)
def gq29.F {R : Type} (kk : Int → List (El u4) → Int → Option R) (w94 : Int) (w93 : List (El u4)) (w9c : Int) (a_N : Int) (w9d : ByteArray) (wa0 : ByteArray) (wa1 : ByteArray) (wa2 : List Int) : Option R :=
 cond (decide ((ByteArray.size w9d : Int) > (65536 : Int))) (kk (0 : Int) [] (2 : Int)) (
  cond (decide ((ByteArray.size wa0 : Int) > (65536 : Int))) (kk (0 : Int) [] (2 : Int)) (
   cond (decide ((ByteArray.size wa1 : Int) > (65536 : Int))) (kk (0 : Int) [] (2 : Int)) (
    cond (decide ((List.length wa2 : Int) > (4096 : Int))) (kk (0 : Int) [] (2 : Int)) (
     (gq73 w94 w93).bind fun r =>
     cond (!r) (kk (0 : Int) [] (1 : Int)) (
      (gq74 w94 w93 w9c a_N w9d wa0 wa1 wa2).bind fun r1 =>
      (gq50 r1.1 r1.2.1).bind fun r2 =>
      kk r2.1 r2.2 r1.2.2)))))
theorem gq29.N (kk : Int → List (El u4) → Int → Option R) (w94 w93 w9c a_N w9d wa0 wa1 wa2) : gq29.F (fun y0 y1 y2 => (kk y0 y1 y2).bind g) w94 w93 w9c a_N w9d wa0 wa1 wa2 = (gq29.F kk w94 w93 w9c a_N w9d wa0 wa1 wa2).bind g := by
 simp only [gq29.F, u6, u9, uc, u7]
def gq29 (w94 : Int) (w93 : List (El u4)) (w9c : Int) (a_N : Int) (w9d : ByteArray) (wa0 : ByteArray) (wa1 : ByteArray) (wa2 : List Int) : Option (Int × List (El u4) × Int) := gq29.F (fun y0 y1 y2 => some (y0, y1, y2)) w94 w93 w9c a_N w9d wa0 wa1 wa2
def gq29.out : (Int × List (El u4) × Int) → CRes := fun a => ⟨encL SV.enc [.agg [.int .i64, .own [] u4 true], .one (.int .i64)] ((a.1, a.2.1, ()), a.2.2, ()), [encL SC.enc [] (), encL SC.enc [] ()]⟩
def gq29.ps : List PS := [.val [none, some (u4, false)], .val [none, none, none, none, none, some ((.int .i64), false)]]
def gq29.sA : List SA := [.v (.agg [.int .i64, .slv [] u4]), .v (.agg [.int .i64, .int .i64, .str, .str, .str, .slv [] (.int .i64)])]
def gq29.fi : FI := FIs gq29.sA (Int × List (El u4) × Int) (fun t => gq29 t.1.1 t.1.2.1 t.2.1.1 t.2.1.2.1 t.2.1.2.2.1 t.2.1.2.2.2.1 t.2.1.2.2.2.2.1 t.2.1.2.2.2.2.2.1) gq29.out gq29.ps
def gq29.E : Env := ⟨tt, lkF [(50, gq50.fi), (73, gq73.fi), (74, gq74.fi)], 44, 0, [], []⟩
theorem gq29.hok (hE : EOk Tryz.prog (gq29.E)) : HintOk Tryz.prog gq29.E (u5 Tryz.f29) (.a) := HintOk.n1 (Q := True) (by kernel_rfl) trivial
theorem gq29.hE : EOk Tryz.prog (gq29.E) := EOk.of ttOk (⟨gq50.fok, ⟨gq73.fok, ⟨gq74.fok, trivial⟩⟩⟩)
theorem gq29.fok : FOk Tryz.prog 29 gq29.fi :=
 fokS (E := gq29.E) (wy := ⟨[[none, some (u4, true)], [none]], [[], []], []⟩) (h := (fun gs => .a)) (G := fun t g => gq29.F (fun y0 y1 y2 => g (y0, y1, y2)) t.1.1 t.1.2.1 t.2.1.1 t.2.1.2.1 t.2.1.2.2.1 t.2.1.2.2.2.1 t.2.1.2.2.2.2.1 t.2.1.2.2.2.2.2.1) (by kernel_rfl) gq29.hE Tryz.func29 (by kernel_rfl) rfl (Nat.le_refl _) (fun t => HintOk.n1 (by kernel_rfl) (gq29.hok gq29.hE)) (fun t g => gq29.N g (fun y0 y1 y2 => some (y0, y1, y2)) _ _ _ _ _ _ _ _) (fun t => by kernel_rfl)
def gq21.F {R : Type} (kk : Int → List ByteArray → List ByteArray → Int → Int → Option R) (w94 : Int) (w93 : List (El u4)) : Option R :=
 (gq65 w94 w93).bind fun r =>
 cond (!r) (kk (0 : Int) [] [] (0 : Int) (1 : Int)) (
  (gq66 w94 w93).bind fun r1 =>
  kk r1.1 r1.2.1 r1.2.2.1 r1.2.2.2.1 r1.2.2.2.2)
theorem gq21.N (kk : Int → List ByteArray → List ByteArray → Int → Int → Option R) (w94 w93) : gq21.F (fun y0 y1 y2 y3 y4 => (kk y0 y1 y2 y3 y4).bind g) w94 w93 = (gq21.F kk w94 w93).bind g := by
 simp only [gq21.F, u6, u9, uc, u7]
def gq21 (w94 : Int) (w93 : List (El u4)) : Option (Int × List ByteArray × List ByteArray × Int × Int) := gq21.F (fun y0 y1 y2 y3 y4 => some (y0, y1, y2, y3, y4)) w94 w93
def gq21.out : (Int × List ByteArray × List ByteArray × Int × Int) → CRes := fun a => ⟨encL SV.enc [.agg [.int .i64, .own [] .str true, .own [] .str true, .int .i64], .one (.int .i64)] ((a.1, a.2.1, a.2.2.1, a.2.2.2.1, ()), a.2.2.2.2, ()), [encL SC.enc [] ()]⟩
def gq21.ps : List PS := [.val [none, some (u4, false)]]
def gq21.sA : List SA := [.v (.agg [.int .i64, .slv [] u4])]
def gq21.fi : FI := FIs gq21.sA (Int × List ByteArray × List ByteArray × Int × Int) (fun t => gq21 t.1.1 t.1.2.1) gq21.out gq21.ps
def gq21.E : Env := ⟨tt, lkF [(65, gq65.fi), (66, gq66.fi)], 12, 0, [], []⟩
theorem gq21.hok (hE : EOk Tryz.prog (gq21.E)) : HintOk Tryz.prog gq21.E (u5 Tryz.f21) (.a) := HintOk.n1 (Q := True) (by kernel_rfl) trivial
theorem gq21.hE : EOk Tryz.prog (gq21.E) := EOk.of ttOk (⟨gq65.fok, ⟨gq66.fok, trivial⟩⟩)
theorem gq21.fok : FOk Tryz.prog 21 gq21.fi :=
 fokS (E := gq21.E) (wy := ⟨[[none, some (.str, true), some (.str, true), none], [none]], [[]], []⟩) (h := (fun gs => .a)) (G := fun t g => gq21.F (fun y0 y1 y2 y3 y4 => g (y0, y1, y2, y3, y4)) t.1.1 t.1.2.1) (by kernel_rfl) gq21.hE Tryz.func21 (by kernel_rfl) rfl (Nat.le_refl _) (fun t => HintOk.n1 (by kernel_rfl) (gq21.hok gq21.hE)) (fun t g => gq21.N g (fun y0 y1 y2 y3 y4 => some (y0, y1, y2, y3, y4)) _ _) (fun t => by kernel_rfl)
def gq30.F {R : Type} (kk : Int → List (El u4) → Int → Option R) (w94 : Int) (w93 : List (El u4)) : Option R :=
 (gq21 w94 w93).bind fun r =>
 cond (r.2.2.2.2 != (0 : Int)) (kk (0 : Int) [] r.2.2.2.2) (
  (gq53 w94 w93).bind fun r1 =>
  (gq75 r.1 r.2.1 r.2.2.1 r.2.2.2.1).bind fun r2 =>
  cond (decide (r.2.2.2.1 > (0 : Int))) (
   (gq76 w94 w93 r2).bind fun r3 =>
   grd (gIx r3.1 (List.length w93)) <|
   cond ((IntKind.wrap .i64 ((ByteArray.size (rdE u4 w93 (Int.toNat r3.1)).2.1 : Int) - r.2.2.2.1)) == (0 : Int)) (
    (gq55 r1.1 r1.2 (4 : Int) (IntKind.wrap .i64 ((ByteArray.size (rdE u4 w93 (Int.toNat r3.1)).2.1 : Int) - r.2.2.2.1)) r2 ByteArray.empty ByteArray.empty []).bind fun r4 =>
    kk r4.2.1 r4.2.2 (0 : Int)) (
    (gq55 r1.1 r1.2 (6 : Int) (IntKind.wrap .i64 ((ByteArray.size (rdE u4 w93 (Int.toNat r3.1)).2.1 : Int) - r.2.2.2.1)) r2 ByteArray.empty ByteArray.empty []).bind fun r5 =>
    kk r5.2.1 r5.2.2 (0 : Int))) (kk r1.1 r1.2 (0 : Int)))
theorem gq30.N (kk : Int → List (El u4) → Int → Option R) (w94 w93) : gq30.F (fun y0 y1 y2 => (kk y0 y1 y2).bind g) w94 w93 = (gq30.F kk w94 w93).bind g := by
 simp only [gq30.F, u6, u9, uc, u7]
def gq30 (w94 : Int) (w93 : List (El u4)) : Option (Int × List (El u4) × Int) := gq30.F (fun y0 y1 y2 => some (y0, y1, y2)) w94 w93
def gq30.out : (Int × List (El u4) × Int) → CRes := fun a => ⟨encL SV.enc [.agg [.int .i64, .own [] u4 true], .one (.int .i64)] ((a.1, a.2.1, ()), a.2.2, ()), [encL SC.enc [] ()]⟩
def gq30.ps : List PS := [.val [none, some (u4, false)]]
def gq30.sA : List SA := [.v (.agg [.int .i64, .slv [] u4])]
def gq30.fi : FI := FIs gq30.sA (Int × List (El u4) × Int) (fun t => gq30 t.1.1 t.1.2.1) gq30.out gq30.ps
def gq30.E : Env := ⟨tt, lkF [(21, gq21.fi), (53, gq53.fi), (55, gq55.fi), (75, gq75.fi), (76, gq76.fi)], 52, 0, [], []⟩
theorem gq30.hok (hE : EOk Tryz.prog (gq30.E)) : HintOk Tryz.prog gq30.E (u5 Tryz.f30) (.a) := HintOk.n1 (Q := True) (by kernel_rfl) trivial
theorem gq30.hE : EOk Tryz.prog (gq30.E) := EOk.of ttOk (⟨gq21.fok, ⟨gq53.fok, ⟨gq55.fok, ⟨gq75.fok, ⟨gq76.fok, trivial⟩⟩⟩⟩⟩)
theorem gq30.fok : FOk Tryz.prog 30 gq30.fi :=
 fokS (E := gq30.E) (wy := ⟨[[none, some (u4, true)], [none]], [[]], []⟩) (h := (fun gs => .a)) (G := fun t g => gq30.F (fun y0 y1 y2 => g (y0, y1, y2)) t.1.1 t.1.2.1) (by kernel_rfl) gq30.hE Tryz.func30 (by kernel_rfl) rfl (Nat.le_refl _) (fun t => HintOk.n1 (by kernel_rfl) (gq30.hok gq30.hE)) (fun t g => gq30.N g (fun y0 y1 y2 => some (y0, y1, y2)) _ _) (fun t => by kernel_rfl)
def gq130.F {R : Type} (kk : Int → Option R) (name : ByteArray) : Option R :=
 cond ((ByteArray.size name : Int) != (3 : Int)) (kk (0 : Int)) (
  grd (gIx (0 : Int) (ByteArray.size name)) <|
  cond ((u21 name (0 : Int)) != (115 : Int)) (kk (0 : Int)) (
   grd (gIx (1 : Int) (ByteArray.size name)) <|
   (gq158 (u21 name (1 : Int))).bind fun r =>
   cond (!r) (kk (0 : Int)) (
    grd (gIx (2 : Int) (ByteArray.size name)) <|
    (gq158 (u21 name (2 : Int))).bind fun r1 =>
    cond (!r1) (kk (0 : Int)) (
     grd (gIx (1 : Int) (ByteArray.size name)) <|
     grd (gIx (2 : Int) (ByteArray.size name)) <|
     kk (IntKind.wrap .i64 ((IntKind.wrap .i64 ((IntKind.wrap .i64 ((10 : Int) * (IntKind.wrap .i64 ((IntKind.wrap .i64 (u21 name (1 : Int))) - (48 : Int))))) + (IntKind.wrap .i64 (u21 name (2 : Int))))) - (48 : Int)))))))
theorem gq130.N (kk : Int → Option R) (name) : gq130.F (fun y0 => (kk y0).bind g) name = (gq130.F kk name).bind g := by
 simp only [gq130.F, u6, u9, uc, u7]
def gq130 (name : ByteArray) : Option Int := gq130.F (fun y0 => some y0) name
def gq130.out : Int → CRes := fun a => ⟨encL SV.enc [.one (.int .i64)] (a, ()), [encL SC.enc [] ()]⟩
def gq130.ps : List PS := [.val [none]]
def gq130.sA : List SA := [.v (.one (.str))]
def gq130.fi : FI := FIs gq130.sA (Int) (fun t => gq130 t.1) gq130.out gq130.ps
def gq130.E : Env := ⟨tt, lkF [(158, gq158.fi)], 33, 0, [], []⟩
theorem gq130.hok (hE : EOk Tryz.prog (gq130.E)) : HintOk Tryz.prog gq130.E (u5 Tryz.f130) (.a) := HintOk.n1 (Q := True) (by kernel_rfl) trivial
theorem gq130.hE : EOk Tryz.prog (gq130.E) := EOk.of ttOk (⟨gq158.fok, trivial⟩)
theorem gq130.fok : FOk Tryz.prog 130 gq130.fi :=
 fokS (E := gq130.E) (wy := ⟨[[none]], [[]], []⟩) (h := (fun gs => .a)) (G := fun t g => gq130.F (fun y0 => g y0) t.1) (by kernel_rfl) gq130.hE Tryz.func130 (by kernel_rfl) rfl (Nat.le_refl _) (fun t => HintOk.n1 (by kernel_rfl) (gq130.hok gq130.hE)) (fun t g => gq130.N g (fun y0 => some y0) _) (fun t => by kernel_rfl)
def gq95.l1 {R : Type} (kke0 : List Int → Option R) : Nat → Int → Int → List (El u4) → List Int → Option R
 | 0, _, _, _, _ => none
 | n + 1, i, d, d1, out =>
  cond (decide (i < (List.length d1 : Int))) (
   grd (gIx i (List.length d1)) <|
   (gq130 ((rdE u4 d1 (Int.toNat i)).1)).bind fun r =>
   cond (decide (r > (0 : Int))) (
    grd (gRm (((List.length out) + (List.length [r])) * 8)) <|
    gq95.l1 kke0 n (IntKind.wrap .i64 (i + (1 : Int))) d d1 (out ++ [r])) (gq95.l1 kke0 n (IntKind.wrap .i64 (i + (1 : Int))) d d1 out)) (kke0 out)
theorem gq95.l1_nat (kke0 : List Int → Option R) : ∀ n i d d1 out, gq95.l1 (fun y0 => (kke0 y0).bind g) n i d d1 out = (gq95.l1 kke0 n i d d1 out).bind g := by
 intro n
 induction n with
 | zero => intros; rfl
 | succ n ih => intros; simp only [gq95.l1, u6, u9, uc, u7, ih]
def gq95.F {R : Type} (kk : List Int → Option R) (w94 : Int) (w93 : List (El u4)) : Option R :=
 gq95.l1 (fun out => kk out) fuel (0 : Int) w94 w93 ([] : List Int)
theorem gq95.N (kk : List Int → Option R) (w94 w93) : gq95.F (fun y0 => (kk y0).bind g) w94 w93 = (gq95.F kk w94 w93).bind g := by
 simp only [gq95.F, u6, u9, uc, u7, ← gq95.l1_nat]
def gq95 (w94 : Int) (w93 : List (El u4)) : Option (List Int) := gq95.F (fun y0 => some y0) w94 w93
def gq95.out : (List Int) → CRes := fun a => ⟨encL SV.enc [.one (.own [] (.int .i64) true)] (a, ()), [encL SC.enc [] ()]⟩
def gq95.ps : List PS := [.val [none, some (u4, false)]]
def gq95.sA : List SA := [.v (.agg [.int .i64, .slv [] u4])]
def gq95.fi : FI := FIs gq95.sA (List Int) (fun t => gq95 t.1.1 t.1.2.1) gq95.out gq95.ps
def gq95.E : Env := ⟨tt, lkF [(130, gq130.fi)], 28, 0, [], []⟩
def gq95.sh1 : SK := ⟨[.v (.one (.bptr 0 0)), .v (.one (.slo 1)), .v (.one (.int .i64))], [.box [.int .i64, .slv [1] u4], .arr (.int .i64) [] true]⟩
def gq95.sh1e0 : SK := ⟨[.v (.one (.slo 0))], [.arr (.int .i64) [] true]⟩
def gq95.ko1 : Ex → List u16 × List Nat
 | .nrm => ([], [])
 | .ret => ([], [])
 | .ext i => cond (Nat.beq i 0) ([], [3]) ([], [])
def gq95.G1 (n : Nat) (R : Type) (t : gq95.sh1.T) (K : Ex → Kp → Option R) : Option R := gq95.l1 (fun y0 => K (.ext 0) (SK.enc gq95.sh1e0 (((), ()), (y0, ())))) n t.1.2.2.1 t.2.1.1 t.2.1.2.1 t.2.2.1
def gq95.S1 : Sum := ⟨([], [1, 3, 4]), sumF gq95.sh1 (gq95.G1 fuel), gq95.ko1⟩
theorem gq95.ok1 (hE : EOk Tryz.prog (gq95.E)) : u15 Tryz.prog gq95.E (cB (cR (cL (cR (cR (u5 Tryz.f95)))))) (gq95.S1) := by
 have hh : HintOk Tryz.prog gq95.E (cB (cB (cR (cL (cR (cR (u5 Tryz.f95))))))) (.a) := HintOk.n1 (Q := True) (by kernel_rfl) trivial
 have h := u2a (kin := ([], [1, 3, 4])) (kout := gq95.ko1) (sh := gq95.sh1) (F := gq95.G1) (u1a (hE.gv _)) (by kernel_rfl) hh (fun _ _ _ => rfl) (fun n R t K => by kernel_rfl) fuel
 exact HintOk.n1 (c := (cB (cR (cL (cR (cR (u5 Tryz.f95))))))) (h := .s (gq95.S1)) (P := Tryz.prog) (E := gq95.E) (by kernel_rfl) h
theorem gq95.hok (hE : EOk Tryz.prog (gq95.E)) : HintOk Tryz.prog gq95.E (u5 Tryz.f95) (.n (.a) (.n (.a) (.n (.n (.a) (.b (.s (gq95.S1)))) (.a)))) := HintOk.n1 (Q := (True) ∧ ((True) ∧ (((True) ∧ (u15 Tryz.prog gq95.E (cB (cR (cL (cR (cR (u5 Tryz.f95)))))) (gq95.S1))) ∧ (True)))) (by kernel_rfl) ⟨trivial, ⟨trivial, ⟨⟨trivial, (gq95.ok1 hE)⟩, trivial⟩⟩⟩
theorem gq95.hE : EOk Tryz.prog (gq95.E) := EOk.of ttOk (⟨gq130.fok, trivial⟩)
theorem gq95.fok : FOk Tryz.prog 95 gq95.fi :=
 fokS (E := gq95.E) (wy := ⟨[[some ((.int .i64), true)]], [[]], []⟩) (h := (fun gs => .n (.a) (.n (.a) (.n (.n (.a) (.b (.s (gq95.S1)))) (.a))))) (G := fun t g => gq95.F (fun y0 => g y0) t.1.1 t.1.2.1) (by kernel_rfl) gq95.hE Tryz.func95 (by kernel_rfl) rfl (Nat.le_refl _) (fun t => HintOk.n1 (by kernel_rfl) (gq95.hok gq95.hE)) (fun t g => gq95.N g (fun y0 => some y0) _ _) (fun t => by kernel_rfl)
def gq147.F {R : Type} (rc : Int → Option ByteArray) (kk : ByteArray → Option R) (n_ : Int) : Option R :=
 cond (n_ == (-9223372036854775808 : Int)) (
  kk (⟨#[45, 57, 50, 50, 51, 51, 55, 50, 48, 51, 54, 56, 53, 52, 55, 55, 53, 56, 48, 56]⟩ : ByteArray)) (
  cond (decide (n_ < (0 : Int))) (
   (rc (IntKind.wrap .i64 (0 - n_))).bind fun r =>
   grd (gCat (⟨#[45]⟩ : ByteArray) r) <|
   kk ((⟨#[45]⟩ : ByteArray) ++ r)) (
   cond (decide (n_ < (10 : Int))) (kk (strL [IntKind.wrap .u8 (IntKind.wrap .i64 ((48 : Int) + n_))])) (
    grd (gNz (10 : Int)) <|
    (rc (IntKind.wrap .i64 (Int.tdiv n_ (10 : Int)))).bind fun r1 =>
    grd (gNz (10 : Int)) <|
    grd (gCat r1 (strL [IntKind.wrap .u8 (IntKind.wrap .i64 ((48 : Int) + (Int.tmod n_ (10 : Int))))])) <|
    kk (r1 ++ (strL [IntKind.wrap .u8 (IntKind.wrap .i64 ((48 : Int) + (Int.tmod n_ (10 : Int))))])))))
theorem gq147.N (rc : Int → Option ByteArray) (kk : ByteArray → Option R) (n_) : gq147.F rc (fun y0 => (kk y0).bind g) n_ = (gq147.F rc kk n_).bind g := by
 simp only [gq147.F, u6, u9, uc, u7]
def gq147 : Nat → Int → Option ByteArray
 | 0, _ => none
 | fu + 1, n_ => gq147.F (gq147 fu) (fun y0 => some y0) n_
theorem w85 {S : Type} (fu : Nat) (g : ByteArray → Option S) (n_ : Int) : gq147.F (gq147 fu) (fun y0 => g y0) n_ = (gq147 (fu + 1) n_).bind g := gq147.N g (gq147 fu) (fun y0 => some y0) n_
def gq147.out : ByteArray → CRes := fun a => ⟨encL SV.enc [.one (.str)] (a, ()), [encL SC.enc [] ()]⟩
def gq147.ps : List PS := [.val [none]]
def gq147.sA : List SA := [.v (.one (.int .i64))]
def gq147.fi (fu : Nat) : FI := FIs gq147.sA (ByteArray) (fun t => gq147 fu t.1) gq147.out gq147.ps
def gq147.E (fu : Nat) : Env := ⟨tt, lkF [(147, gq147.fi fu)], 28, 0, [], []⟩
theorem gq147.hok (fu : Nat) (hE : EOk Tryz.prog (gq147.E fu)) : HintOk Tryz.prog (gq147.E fu) (u5 Tryz.f147) (.a) := HintOk.n1 (Q := True) (by kernel_rfl) trivial
theorem gq147.fok0 : FOk Tryz.prog 147 (gq147.fi 0) := FOk.zero ⟨_, _, Tryz.func147, by kernel_rfl, rfl⟩ (fun _ => rfl)
theorem gq147.fok1 (fu : Nat) (ih : FOk Tryz.prog 147 (gq147.fi fu)) : FOk Tryz.prog 147 (gq147.fi (fu + 1)) := by
 have hE : EOk Tryz.prog (gq147.E fu) := EOk.of ttOk (⟨ih, trivial⟩)
 exact fokS (E := gq147.E fu) (wy := ⟨[[none]], [[]], []⟩) (h := (fun gs => .a)) (G := fun t g => gq147.F (gq147 fu) (fun y0 => g y0) t.1) (by kernel_rfl) hE Tryz.func147 (by kernel_rfl) rfl (Nat.le_refl _) (fun t => HintOk.n1 (by kernel_rfl) (gq147.hok fu hE)) (fun t g => w85 fu g t.1) (fun t => by kernel_rfl)
theorem gq147.fok (fu : Nat) : FOk Tryz.prog 147 (gq147.fi fu) := Nat.rec gq147.fok0 gq147.fok1 fu
def gq99.F {R : Type} (kk : ByteArray → Option R) (n_ : Int) : Option R :=
 grd (gNz (10 : Int)) <|
 (gq147 fuel (IntKind.wrap .i64 (Int.tdiv n_ (10 : Int)))).bind fun r =>
 grd (gCat (⟨#[115]⟩ : ByteArray) r) <|
 grd (gNz (10 : Int)) <|
 (gq147 fuel (Int.tmod n_ (10 : Int))).bind fun r1 =>
 grd (gCat ((⟨#[115]⟩ : ByteArray) ++ r) r1) <|
 kk (((⟨#[115]⟩ : ByteArray) ++ r) ++ r1)
theorem gq99.N (kk : ByteArray → Option R) (n_) : gq99.F (fun y0 => (kk y0).bind g) n_ = (gq99.F kk n_).bind g := by
 simp only [gq99.F, u6, u9, uc, u7]
def gq99 (n_ : Int) : Option ByteArray := gq99.F (fun y0 => some y0) n_
def gq99.out : ByteArray → CRes := fun a => ⟨encL SV.enc [.one (.str)] (a, ()), [encL SC.enc [] ()]⟩
def gq99.ps : List PS := [.val [none]]
def gq99.sA : List SA := [.v (.one (.int .i64))]
def gq99.fi : FI := FIs gq99.sA (ByteArray) (fun t => gq99 t.1) gq99.out gq99.ps
def gq99.E : Env := ⟨tt, lkF [(147, gq147.fi fuel)], 11, 0, [], []⟩
theorem gq99.hok (hE : EOk Tryz.prog (gq99.E)) : HintOk Tryz.prog gq99.E (u5 Tryz.f99) (.a) := HintOk.n1 (Q := True) (by kernel_rfl) trivial
theorem gq99.hE : EOk Tryz.prog (gq99.E) := EOk.of ttOk (⟨gq147.fok fuel, trivial⟩)
theorem gq99.fok : FOk Tryz.prog 99 gq99.fi :=
 fokS (E := gq99.E) (wy := ⟨[[none]], [[]], []⟩) (h := (fun gs => .a)) (G := fun t g => gq99.F (fun y0 => g y0) t.1) (by kernel_rfl) gq99.hE Tryz.func99 (by kernel_rfl) rfl (Nat.le_refl _) (fun t => HintOk.n1 (by kernel_rfl) (gq99.hok gq99.hE)) (fun t g => gq99.N g (fun y0 => some y0) _) (fun t => by kernel_rfl)
def gq96.F {R : Type} (kk : ByteArray → Option R) (w94 : Int) (w93 : List (El u4)) (n_ : Int) : Option R :=
 (gq99 n_).bind fun r =>
 (gq124 w94 w93 r).bind fun r1 =>
 grd (gIx r1 (List.length w93)) <|
 kk (rdE u4 w93 (Int.toNat r1)).2.1
theorem gq96.N (kk : ByteArray → Option R) (w94 w93 n_) : gq96.F (fun y0 => (kk y0).bind g) w94 w93 n_ = (gq96.F kk w94 w93 n_).bind g := by
 simp only [gq96.F, u6, u9, uc, u7]
def gq96 (w94 : Int) (w93 : List (El u4)) (n_ : Int) : Option ByteArray := gq96.F (fun y0 => some y0) w94 w93 n_
def gq96.out : ByteArray → CRes := fun a => ⟨encL SV.enc [.one (.str)] (a, ()), [encL SC.enc [] (), encL SC.enc [] ()]⟩
def gq96.ps : List PS := [.val [none, some (u4, false)], .val [none]]
def gq96.sA : List SA := [.v (.agg [.int .i64, .slv [] u4]), .v (.one (.int .i64))]
def gq96.fi : FI := FIs gq96.sA (ByteArray) (fun t => gq96 t.1.1 t.1.2.1 t.2.1) gq96.out gq96.ps
def gq96.E : Env := ⟨tt, lkF [(99, gq99.fi), (124, gq124.fi)], 14, 0, [], []⟩
theorem gq96.hok (hE : EOk Tryz.prog (gq96.E)) : HintOk Tryz.prog gq96.E (u5 Tryz.f96) (.a) := HintOk.n1 (Q := True) (by kernel_rfl) trivial
theorem gq96.hE : EOk Tryz.prog (gq96.E) := EOk.of ttOk (⟨gq99.fok, ⟨gq124.fok, trivial⟩⟩)
theorem gq96.fok : FOk Tryz.prog 96 gq96.fi :=
 fokS (E := gq96.E) (wy := ⟨[[none]], [[], []], []⟩) (h := (fun gs => .a)) (G := fun t g => gq96.F (fun y0 => g y0) t.1.1 t.1.2.1 t.2.1) (by kernel_rfl) gq96.hE Tryz.func96 (by kernel_rfl) rfl (Nat.le_refl _) (fun t => HintOk.n1 (by kernel_rfl) (gq96.hok gq96.hE)) (fun t g => gq96.N g (fun y0 => some y0) _ _ _) (fun t => by kernel_rfl)
def gq133.F {R : Type} (kk : List Int → Option R) (n_ : Int) : Option R :=
 grd (gSh (24 : Int)) <|
 grd (gSh (16 : Int)) <|
 grd (gSh (8 : Int)) <|
 kk [IntKind.wrap .u8 (iShr .i64 n_ (24 : Int)), IntKind.wrap .u8 (iShr .i64 n_ (16 : Int)), IntKind.wrap .u8 (iShr .i64 n_ (8 : Int)), IntKind.wrap .u8 n_]
theorem gq133.N (kk : List Int → Option R) (n_) : gq133.F (fun y0 => (kk y0).bind g) n_ = (gq133.F kk n_).bind g := by
 simp only [gq133.F, u6, u9, uc, u7]
def gq133 (n_ : Int) : Option (List Int) := gq133.F (fun y0 => some y0) n_
def gq133.out : (List Int) → CRes := fun a => ⟨encL SV.enc [.one (.own [] (.int .u8) true)] (a, ()), [encL SC.enc [] ()]⟩
def gq133.ps : List PS := [.val [none]]
def gq133.sA : List SA := [.v (.one (.int .i64))]
def gq133.fi : FI := FIs gq133.sA (List Int) (fun t => gq133 t.1) gq133.out gq133.ps
def gq133.E : Env := ⟨tt, lkF [], 15, 0, [], []⟩
theorem gq133.hok (hE : EOk Tryz.prog (gq133.E)) : HintOk Tryz.prog gq133.E (u5 Tryz.f133) (.a) := HintOk.n1 (Q := True) (by kernel_rfl) trivial
theorem gq133.hE : EOk Tryz.prog (gq133.E) := EOk.of ttOk (trivial)
theorem gq133.fok : FOk Tryz.prog 133 gq133.fi :=
 fokS (E := gq133.E) (wy := ⟨[[some ((.int .u8), true)]], [[]], []⟩) (h := (fun gs => .a)) (G := fun t g => gq133.F (fun y0 => g y0) t.1) (by kernel_rfl) gq133.hE Tryz.func133 (by kernel_rfl) rfl (Nat.le_refl _) (fun t => HintOk.n1 (by kernel_rfl) (gq133.hok gq133.hE)) (fun t g => gq133.N g (fun y0 => some y0) _) (fun t => by kernel_rfl)
def gq150.F {R : Type} (kk : List Int → Option R) (n_ : Int) : Option R :=
 grd (gNz (256 : Int)) <|
 kk [IntKind.wrap .u8 (IntKind.wrap .i64 (Int.tdiv n_ (256 : Int))), IntKind.wrap .u8 n_]
theorem gq150.N (kk : List Int → Option R) (n_) : gq150.F (fun y0 => (kk y0).bind g) n_ = (gq150.F kk n_).bind g := by
 simp only [gq150.F, u6, u9, uc, u7]
def gq150 (n_ : Int) : Option (List Int) := gq150.F (fun y0 => some y0) n_
def gq150.out : (List Int) → CRes := fun a => ⟨encL SV.enc [.one (.own [] (.int .u8) true)] (a, ()), [encL SC.enc [] ()]⟩
def gq150.ps : List PS := [.val [none]]
def gq150.sA : List SA := [.v (.one (.int .i64))]
def gq150.fi : FI := FIs gq150.sA (List Int) (fun t => gq150 t.1) gq150.out gq150.ps
def gq150.E : Env := ⟨tt, lkF [], 9, 0, [], []⟩
theorem gq150.hok (hE : EOk Tryz.prog (gq150.E)) : HintOk Tryz.prog gq150.E (u5 Tryz.f150) (.a) := HintOk.n1 (Q := True) (by kernel_rfl) trivial
theorem gq150.hE : EOk Tryz.prog (gq150.E) := EOk.of ttOk (trivial)
theorem gq150.fok : FOk Tryz.prog 150 gq150.fi :=
 fokS (E := gq150.E) (wy := ⟨[[some ((.int .u8), true)]], [[]], []⟩) (h := (fun gs => .a)) (G := fun t g => gq150.F (fun y0 => g y0) t.1) (by kernel_rfl) gq150.hE Tryz.func150 (by kernel_rfl) rfl (Nat.le_refl _) (fun t => HintOk.n1 (by kernel_rfl) (gq150.hok gq150.hE)) (fun t g => gq150.N g (fun y0 => some y0) _) (fun t => by kernel_rfl)
def gq151.l1 {R : Type} (kke2 : List Int → Int → Int → Option R) : Nat → List Int → Int → Int → Int → Option R
 | 0, _, _, _, _ => none
 | n + 1, b, n_, i, k_ =>
  cond (decide (k_ < (8 : Int))) (
   grd (gNz (2 : Int)) <|
   cond ((Int.tmod n_ (2 : Int)) == (1 : Int)) (
    grd (gNz (2 : Int)) <|
    gq151.l1 kke2 n b (iXor .i64 (IntKind.wrap .i64 (Int.tdiv n_ (2 : Int))) (3988292384 : Int)) i (IntKind.wrap .i64 (k_ + (1 : Int)))) (
    grd (gNz (2 : Int)) <|
    gq151.l1 kke2 n b (IntKind.wrap .i64 (Int.tdiv n_ (2 : Int))) i (IntKind.wrap .i64 (k_ + (1 : Int))))) (kke2 b n_ i)
theorem gq151.l1_nat (kke2 : List Int → Int → Int → Option R) : ∀ n b n_ i k_, gq151.l1 (fun y0 y1 y2 => (kke2 y0 y1 y2).bind g) n b n_ i k_ = (gq151.l1 kke2 n b n_ i k_).bind g := by
 intro n
 induction n with
 | zero => intros; rfl
 | succ n ih => intros; simp only [gq151.l1, u6, u9, uc, u7, ih]
def gq151.l2 {R : Type} (kke0 : Int → Option R) : Nat → List Int → Int → Int → Option R
 | 0, _, _, _ => none
 | n + 1, b, n_, i =>
  cond (decide (i < (List.length b : Int))) (
   grd (gIx i (List.length b)) <|
   gq151.l1 (fun b1 n_1 i1 => gq151.l2 kke0 n b1 n_1 (IntKind.wrap .i64 (i1 + (1 : Int)))) fuel b (iXor .i64 n_ (IntKind.wrap .i64 (rdE (.int .u8 : Kd) b (Int.toNat i)))) i (0 : Int)) (kke0 n_)
theorem gq151.l2_nat (kke0 : Int → Option R) : ∀ n b n_ i, gq151.l2 (fun y0 => (kke0 y0).bind g) n b n_ i = (gq151.l2 kke0 n b n_ i).bind g := by
 intro n
 induction n with
 | zero => intros; rfl
 | succ n ih => intros; simp only [gq151.l2, u6, u9, uc, u7, ← gq151.l1_nat, ih]
def gq151.F {R : Type} (kk : Int → Option R) (b : List Int) : Option R :=
 gq151.l2 (fun n_ => kk (iXor .i64 n_ (4294967295 : Int))) fuel b (4294967295 : Int) (0 : Int)
theorem gq151.N (kk : Int → Option R) (b) : gq151.F (fun y0 => (kk y0).bind g) b = (gq151.F kk b).bind g := by
 simp only [gq151.F, u6, u9, uc, u7, ← gq151.l2_nat]
def gq151 (b : List Int) : Option Int := gq151.F (fun y0 => some y0) b
def gq151.out : Int → CRes := fun a => ⟨encL SV.enc [.one (.int .i64)] (a, ()), [encL SC.enc [] ()]⟩
def gq151.ps : List PS := [.val [some ((.int .u8), false)]]
def gq151.sA : List SA := [.v (.one (.slv [] (.int .u8)))]
def gq151.fi : FI := FIs gq151.sA (Int) (fun t => gq151 t.1) gq151.out gq151.ps
def gq151.E : Env := ⟨tt, lkF [], 33, 0, [], []⟩
def gq151.sh1 : SK := ⟨[.v (.one (.slv [1] (.int .u8))), .v (.one (.int .i64)), .v (.one (.int .i64)), .v (.one (.int .i64))], []⟩
def gq151.sh1e2 : SK := ⟨[.v (.one (.slv [1] (.int .u8))), .v (.one (.int .i64)), .v (.one (.int .i64))], []⟩
def gq151.ko1 : Ex → List u16 × List Nat
 | .nrm => ([], [])
 | .ret => ([], [])
 | .ext i => cond (Nat.beq i 2) ([], [0, 3, 4]) ([], [])
def gq151.G1 (n : Nat) (R : Type) (t : gq151.sh1.T) (K : Ex → Kp → Option R) : Option R := gq151.l1 (fun y0 y1 y2 => K (.ext 2) (SK.enc gq151.sh1e2 ((y0, y1, y2, ()), ()))) n t.1.1 t.1.2.1 t.1.2.2.1 t.1.2.2.2.1
def gq151.S1 : Sum := ⟨([], [0, 3, 4, 5]), sumF gq151.sh1 (gq151.G1 fuel), gq151.ko1⟩
theorem gq151.ok1 (hE : EOk Tryz.prog (gq151.E)) : u15 Tryz.prog gq151.E (cB (cR (cR (cB (cL (cR (cB (cB (cR (cL (cR (cR (u5 Tryz.f151))))))))))))) (gq151.S1) := by
 have hh : HintOk Tryz.prog gq151.E (cB (cB (cR (cR (cB (cL (cR (cB (cB (cR (cL (cR (cR (u5 Tryz.f151)))))))))))))) (.a) := HintOk.n1 (Q := True) (by kernel_rfl) trivial
 have h := u2a (kin := ([], [0, 3, 4, 5])) (kout := gq151.ko1) (sh := gq151.sh1) (F := gq151.G1) (u1a (hE.gv _)) (by kernel_rfl) hh (fun _ _ _ => rfl) (fun n R t K => by kernel_rfl) fuel
 exact HintOk.n1 (c := (cB (cR (cR (cB (cL (cR (cB (cB (cR (cL (cR (cR (u5 Tryz.f151)))))))))))))) (h := .s (gq151.S1)) (P := Tryz.prog) (E := gq151.E) (by kernel_rfl) h
def gq151.sh2 : SK := ⟨[.v (.one (.slv [1] (.int .u8))), .v (.one (.int .i64)), .v (.one (.int .i64))], []⟩
def gq151.sh2e0 : SK := ⟨[.v (.one (.int .i64))], []⟩
def gq151.ko2 : Ex → List u16 × List Nat
 | .nrm => ([], [])
 | .ret => ([], [])
 | .ext i => cond (Nat.beq i 0) ([], [3]) ([], [])
def gq151.G2 (n : Nat) (R : Type) (t : gq151.sh2.T) (K : Ex → Kp → Option R) : Option R := gq151.l2 (fun y0 => K (.ext 0) (SK.enc gq151.sh2e0 ((y0, ()), ()))) n t.1.1 t.1.2.1 t.1.2.2.1
def gq151.S2 : Sum := ⟨([], [0, 3, 4]), sumF gq151.sh2 (gq151.G2 fuel), gq151.ko2⟩
theorem gq151.ok2 (hE : EOk Tryz.prog (gq151.E)) : u15 Tryz.prog gq151.E (cB (cR (cL (cR (cR (u5 Tryz.f151)))))) (gq151.S2) := by
 have hh : HintOk Tryz.prog gq151.E (cB (cB (cR (cL (cR (cR (u5 Tryz.f151))))))) (.n (.a) (.n (.b (.n (.a) (.n (.a) (.b (.s (gq151.S1)))))) (.a))) := HintOk.n1 (Q := (True) ∧ (((True) ∧ ((True) ∧ (u15 Tryz.prog gq151.E (cB (cR (cR (cB (cL (cR (cB (cB (cR (cL (cR (cR (u5 Tryz.f151))))))))))))) (gq151.S1)))) ∧ (True))) (by kernel_rfl) ⟨trivial, ⟨⟨trivial, ⟨trivial, (gq151.ok1 hE)⟩⟩, trivial⟩⟩
 have h := u2a (kin := ([], [0, 3, 4])) (kout := gq151.ko2) (sh := gq151.sh2) (F := gq151.G2) (u1a (hE.gv _)) (by kernel_rfl) hh (fun _ _ _ => rfl) (fun n R t K => by kernel_rfl) fuel
 exact HintOk.n1 (c := (cB (cR (cL (cR (cR (u5 Tryz.f151))))))) (h := .s (gq151.S2)) (P := Tryz.prog) (E := gq151.E) (by kernel_rfl) h
theorem gq151.hok (hE : EOk Tryz.prog (gq151.E)) : HintOk Tryz.prog gq151.E (u5 Tryz.f151) (.n (.a) (.n (.a) (.n (.n (.a) (.b (.s (gq151.S2)))) (.a)))) := HintOk.n1 (Q := (True) ∧ ((True) ∧ (((True) ∧ (u15 Tryz.prog gq151.E (cB (cR (cL (cR (cR (u5 Tryz.f151)))))) (gq151.S2))) ∧ (True)))) (by kernel_rfl) ⟨trivial, ⟨trivial, ⟨⟨trivial, (gq151.ok2 hE)⟩, trivial⟩⟩⟩
theorem gq151.hE : EOk Tryz.prog (gq151.E) := EOk.of ttOk (trivial)
theorem gq151.fok : FOk Tryz.prog 151 gq151.fi :=
 fokS (E := gq151.E) (wy := ⟨[[none]], [[]], []⟩) (h := (fun gs => .n (.a) (.n (.a) (.n (.n (.a) (.b (.s (gq151.S2)))) (.a))))) (G := fun t g => gq151.F (fun y0 => g y0) t.1) (by kernel_rfl) gq151.hE Tryz.func151 (by kernel_rfl) rfl (Nat.le_refl _) (fun t => HintOk.n1 (by kernel_rfl) (gq151.hok gq151.hE)) (fun t g => gq151.N g (fun y0 => some y0) _) (fun t => by kernel_rfl)
def gq110.F {R : Type} (kk : List Int → Option R) (data : List Int) : Option R :=
 (gq150 (List.length data : Int)).bind fun r =>
 grd (gRm (((List.length ([] : List Int)) + (List.length r)) * 1)) <|
 grd (gRm (((List.length (([] : List Int) ++ r)) + (List.length data)) * 1)) <|
 (gq151 ((([] : List Int) ++ r) ++ data)).bind fun r1 =>
 (gq133 r1).bind fun r2 =>
 grd (gRm (((List.length r) + (List.length r2)) * 1)) <|
 grd (gRm (((List.length (r ++ r2)) + (List.length data)) * 1)) <|
 kk ((r ++ r2) ++ data)
theorem gq110.N (kk : List Int → Option R) (data) : gq110.F (fun y0 => (kk y0).bind g) data = (gq110.F kk data).bind g := by
 simp only [gq110.F, u6, u9, uc, u7]
def gq110 (data : List Int) : Option (List Int) := gq110.F (fun y0 => some y0) data
def gq110.out : (List Int) → CRes := fun a => ⟨encL SV.enc [.one (.own [] (.int .u8) true)] (a, ()), [encL SC.enc [] ()]⟩
def gq110.ps : List PS := [.val [some ((.int .u8), false)]]
def gq110.sA : List SA := [.v (.one (.slv [] (.int .u8)))]
def gq110.fi : FI := FIs gq110.sA (List Int) (fun t => gq110 t.1) gq110.out gq110.ps
def gq110.E : Env := ⟨tt, lkF [(133, gq133.fi), (150, gq150.fi), (151, gq151.fi)], 20, 0, [], []⟩
theorem gq110.hok (hE : EOk Tryz.prog (gq110.E)) : HintOk Tryz.prog gq110.E (u5 Tryz.f110) (.a) := HintOk.n1 (Q := True) (by kernel_rfl) trivial
theorem gq110.hE : EOk Tryz.prog (gq110.E) := EOk.of ttOk (⟨gq133.fok, ⟨gq150.fok, ⟨gq151.fok, trivial⟩⟩⟩)
theorem gq110.fok : FOk Tryz.prog 110 gq110.fi :=
 fokS (E := gq110.E) (wy := ⟨[[some ((.int .u8), true)]], [[]], []⟩) (h := (fun gs => .a)) (G := fun t g => gq110.F (fun y0 => g y0) t.1) (by kernel_rfl) gq110.hE Tryz.func110 (by kernel_rfl) rfl (Nat.le_refl _) (fun t => HintOk.n1 (by kernel_rfl) (gq110.hok gq110.hE)) (fun t g => gq110.N g (fun y0 => some y0) _) (fun t => by kernel_rfl)
def gq97.l1 {R : Type} (kke0 : Int → List ByteArray → Option R) (kkr : Int → Int → List ByteArray → Option R) : Nat → List Int → Int → List ByteArray → Option R
 | 0, _, _, _ => none
 | n + 1, b, at_, out =>
  cond (decide (at_ < (List.length b : Int))) (
   cond (decide ((IntKind.wrap .i64 ((List.length b : Int) - at_)) < (6 : Int))) (kkr at_ (16 : Int) out) (
    grd (gIx at_ (List.length b)) <|
    grd (gIx (IntKind.wrap .i64 (at_ + (1 : Int))) (List.length b)) <|
    cond ((IntKind.wrap .i64 ((IntKind.wrap .i64 ((IntKind.wrap .i64 (rdE (.int .u8 : Kd) b (Int.toNat at_))) * (256 : Int))) + (IntKind.wrap .i64 (rdE (.int .u8 : Kd) b (Int.toNat (IntKind.wrap .i64 (at_ + (1 : Int)))))))) == (0 : Int)) (kkr at_ (8 : Int) out) (
     cond (decide ((IntKind.wrap .i64 ((IntKind.wrap .i64 ((IntKind.wrap .i64 (rdE (.int .u8 : Kd) b (Int.toNat at_))) * (256 : Int))) + (IntKind.wrap .i64 (rdE (.int .u8 : Kd) b (Int.toNat (IntKind.wrap .i64 (at_ + (1 : Int)))))))) > (200 : Int))) (kkr at_ (8 : Int) out) (
      cond (decide ((IntKind.wrap .i64 ((IntKind.wrap .i64 ((List.length b : Int) - at_)) - (6 : Int))) < (IntKind.wrap .i64 ((IntKind.wrap .i64 ((IntKind.wrap .i64 (rdE (.int .u8 : Kd) b (Int.toNat at_))) * (256 : Int))) + (IntKind.wrap .i64 (rdE (.int .u8 : Kd) b (Int.toNat (IntKind.wrap .i64 (at_ + (1 : Int)))))))))) (kkr at_ (16 : Int) out) (
       grd (gSl (IntKind.wrap .i64 (at_ + (6 : Int))) (IntKind.wrap .i64 ((IntKind.wrap .i64 (at_ + (6 : Int))) + (IntKind.wrap .i64 ((IntKind.wrap .i64 ((IntKind.wrap .i64 (rdE (.int .u8 : Kd) b (Int.toNat at_))) * (256 : Int))) + (IntKind.wrap .i64 (rdE (.int .u8 : Kd) b (Int.toNat (IntKind.wrap .i64 (at_ + (1 : Int)))))))))) (List.length b)) <|
       (gq110 (sub b (IntKind.wrap .i64 (at_ + (6 : Int))) (IntKind.wrap .i64 ((IntKind.wrap .i64 (at_ + (6 : Int))) + (IntKind.wrap .i64 ((IntKind.wrap .i64 ((IntKind.wrap .i64 (rdE (.int .u8 : Kd) b (Int.toNat at_))) * (256 : Int))) + (IntKind.wrap .i64 (rdE (.int .u8 : Kd) b (Int.toNat (IntKind.wrap .i64 (at_ + (1 : Int)))))))))))).bind fun r =>
       grd (gSl at_ (IntKind.wrap .i64 ((IntKind.wrap .i64 (at_ + (6 : Int))) + (IntKind.wrap .i64 ((IntKind.wrap .i64 ((IntKind.wrap .i64 (rdE (.int .u8 : Kd) b (Int.toNat at_))) * (256 : Int))) + (IntKind.wrap .i64 (rdE (.int .u8 : Kd) b (Int.toNat (IntKind.wrap .i64 (at_ + (1 : Int)))))))))) (List.length b)) <|
       cond (!(sEq (strL r) (strL (sub b at_ (IntKind.wrap .i64 ((IntKind.wrap .i64 (at_ + (6 : Int))) + (IntKind.wrap .i64 ((IntKind.wrap .i64 ((IntKind.wrap .i64 (rdE (.int .u8 : Kd) b (Int.toNat at_))) * (256 : Int))) + (IntKind.wrap .i64 (rdE (.int .u8 : Kd) b (Int.toNat (IntKind.wrap .i64 (at_ + (1 : Int)))))))))))))) (kkr at_ (8 : Int) out) (
        grd (gRm (((List.length out) + (List.length [strL (sub b (IntKind.wrap .i64 (at_ + (6 : Int))) (IntKind.wrap .i64 ((IntKind.wrap .i64 (at_ + (6 : Int))) + (IntKind.wrap .i64 ((IntKind.wrap .i64 ((IntKind.wrap .i64 (rdE (.int .u8 : Kd) b (Int.toNat at_))) * (256 : Int))) + (IntKind.wrap .i64 (rdE (.int .u8 : Kd) b (Int.toNat (IntKind.wrap .i64 (at_ + (1 : Int)))))))))))])) * 16)) <|
        gq97.l1 kke0 kkr n b (IntKind.wrap .i64 (at_ + (IntKind.wrap .i64 ((6 : Int) + (IntKind.wrap .i64 ((IntKind.wrap .i64 ((IntKind.wrap .i64 (rdE (.int .u8 : Kd) b (Int.toNat at_))) * (256 : Int))) + (IntKind.wrap .i64 (rdE (.int .u8 : Kd) b (Int.toNat (IntKind.wrap .i64 (at_ + (1 : Int)))))))))))) (out ++ [strL (sub b (IntKind.wrap .i64 (at_ + (6 : Int))) (IntKind.wrap .i64 ((IntKind.wrap .i64 (at_ + (6 : Int))) + (IntKind.wrap .i64 ((IntKind.wrap .i64 ((IntKind.wrap .i64 (rdE (.int .u8 : Kd) b (Int.toNat at_))) * (256 : Int))) + (IntKind.wrap .i64 (rdE (.int .u8 : Kd) b (Int.toNat (IntKind.wrap .i64 (at_ + (1 : Int)))))))))))]))))))) (kke0 at_ out)
theorem gq97.l1_nat (kke0 : Int → List ByteArray → Option R) (kkr : Int → Int → List ByteArray → Option R) : ∀ n b at_ out, gq97.l1 (fun y0 y1 => (kke0 y0 y1).bind g) (fun y0 y1 y2 => (kkr y0 y1 y2).bind g) n b at_ out = (gq97.l1 kke0 kkr n b at_ out).bind g := by
 intro n
 induction n with
 | zero => intros; rfl
 | succ n ih => intros; simp only [gq97.l1, u6, u9, uc, u7, ih]
def gq97.F {R : Type} (kk : List ByteArray → Int → Int → Option R) (b : List Int) : Option R :=
 gq97.l1 (fun at_ out => kk out at_ (0 : Int)) (fun i i1 l => kk l i i1) fuel b (0 : Int) ([] : List ByteArray)
theorem gq97.N (kk : List ByteArray → Int → Int → Option R) (b) : gq97.F (fun y0 y1 y2 => (kk y0 y1 y2).bind g) b = (gq97.F kk b).bind g := by
 simp only [gq97.F, u6, u9, uc, u7, ← gq97.l1_nat]
def gq97 (b : List Int) : Option (List ByteArray × Int × Int) := gq97.F (fun y0 y1 y2 => some (y0, y1, y2)) b
def gq97.out : (List ByteArray × Int × Int) → CRes := fun a => ⟨encL SV.enc [.one (.own [] .str true), .one (.int .i64), .one (.int .i64)] (a.1, a.2.1, a.2.2, ()), [encL SC.enc [] ()]⟩
def gq97.ps : List PS := [.val [some ((.int .u8), false)]]
def gq97.sA : List SA := [.v (.one (.slv [] (.int .u8)))]
def gq97.fi : FI := FIs gq97.sA (List ByteArray × Int × Int) (fun t => gq97 t.1) gq97.out gq97.ps
def gq97.E : Env := ⟨tt, lkF [(110, gq110.fi)], 84, 0, [], []⟩
def gq97.sh1 : SK := ⟨[.v (.one (.slv [1] (.int .u8))), .v (.one (.slo 0)), .v (.one (.int .i64))], [.arr .str [] true]⟩
def gq97.sh1e0 : SK := ⟨[.v (.one (.slo 0)), .v (.one (.int .i64))], [.arr .str [] true]⟩
def gq97.sh1r : SK := ⟨[.v (.one (.slo 0)), .v (.one (.int .i64)), .v (.one (.int .i64))], [.arr .str [] true]⟩
def gq97.ko1 : Ex → List u16 × List Nat
 | .nrm => ([], [])
 | .ret => ([], [2, 3, 4])
 | .ext i => cond (Nat.beq i 0) ([], [5, 6]) ([], [])
def gq97.G1 (n : Nat) (R : Type) (t : gq97.sh1.T) (K : Ex → Kp → Option R) : Option R := gq97.l1 (fun y0 y1 => K (.ext 0) (SK.enc gq97.sh1e0 (((), y0, ()), (y1, ())))) (fun y0 y1 y2 => K .ret (SK.enc gq97.sh1r (((), y0, y1, ()), (y2, ())))) n t.1.1 t.1.2.2.1 t.2.1
def gq97.S1 : Sum := ⟨([], [0, 5, 6]), sumF gq97.sh1 (gq97.G1 fuel), gq97.ko1⟩
theorem gq97.ok1 (hE : EOk Tryz.prog (gq97.E)) : u15 Tryz.prog gq97.E (cB (cL (cR (cR (cR (u5 Tryz.f97)))))) (gq97.S1) := by
 have hh : HintOk Tryz.prog gq97.E (cB (cB (cL (cR (cR (cR (u5 Tryz.f97))))))) (.a) := HintOk.n1 (Q := True) (by kernel_rfl) trivial
 have h := u2a (kin := ([], [0, 5, 6])) (kout := gq97.ko1) (sh := gq97.sh1) (F := gq97.G1) (u1a (hE.gv _)) (by kernel_rfl) hh (fun _ _ _ => rfl) (fun n R t K => by kernel_rfl) fuel
 exact HintOk.n1 (c := (cB (cL (cR (cR (cR (u5 Tryz.f97))))))) (h := .s (gq97.S1)) (P := Tryz.prog) (E := gq97.E) (by kernel_rfl) h
theorem gq97.hok (hE : EOk Tryz.prog (gq97.E)) : HintOk Tryz.prog gq97.E (u5 Tryz.f97) (.n (.a) (.n (.a) (.n (.a) (.n (.b (.s (gq97.S1))) (.a))))) := HintOk.n1 (Q := (True) ∧ ((True) ∧ ((True) ∧ ((u15 Tryz.prog gq97.E (cB (cL (cR (cR (cR (u5 Tryz.f97)))))) (gq97.S1)) ∧ (True))))) (by kernel_rfl) ⟨trivial, ⟨trivial, ⟨trivial, ⟨(gq97.ok1 hE), trivial⟩⟩⟩⟩
theorem gq97.hE : EOk Tryz.prog (gq97.E) := EOk.of ttOk (⟨gq110.fok, trivial⟩)
theorem gq97.fok : FOk Tryz.prog 97 gq97.fi :=
 fokS (E := gq97.E) (wy := ⟨[[some (.str, true)], [none], [none]], [[]], []⟩) (h := (fun gs => .n (.a) (.n (.a) (.n (.a) (.n (.b (.s (gq97.S1))) (.a)))))) (G := fun t g => gq97.F (fun y0 y1 y2 => g (y0, y1, y2)) t.1) (by kernel_rfl) gq97.hE Tryz.func97 (by kernel_rfl) rfl (Nat.le_refl _) (fun t => HintOk.n1 (by kernel_rfl) (gq97.hok gq97.hE)) (fun t g => gq97.N g (fun y0 y1 y2 => some (y0, y1, y2)) _) (fun t => by kernel_rfl)
def gq98.l1 {R : Type} (kke0 : Int → List Int → Int → Bool → Option R) (kkr : Int → List Int → Int → Bool → Option R) : Nat → Int → Int → Int → List Int → Int → Bool → Option R
 | 0, _, _, _, _, _, _ => none
 | n + 1, n_, out, i, r, r1, r2 =>
  cond (decide (i < n_)) (
   cond (r2) (kkr (0 : Int) r r1 true) (
    cond (decide (r1 ≥ (List.length r : Int))) (kkr (0 : Int) r r1 true) (
     grd (gIx r1 (List.length r)) <|
     gq98.l1 kke0 kkr n n_ (IntKind.wrap .i64 ((IntKind.wrap .i64 (out * (256 : Int))) + (IntKind.wrap .i64 (rdE (.int .u8 : Kd) r (Int.toNat r1))))) (IntKind.wrap .i64 (i + (1 : Int))) r (IntKind.wrap .i64 (r1 + (1 : Int))) r2))) (kke0 out r r1 r2)
theorem gq98.l1_nat (kke0 : Int → List Int → Int → Bool → Option R) (kkr : Int → List Int → Int → Bool → Option R) : ∀ n n_ out i r r1 r2, gq98.l1 (fun y0 y1 y2 y3 => (kke0 y0 y1 y2 y3).bind g) (fun y0 y1 y2 y3 => (kkr y0 y1 y2 y3).bind g) n n_ out i r r1 r2 = (gq98.l1 kke0 kkr n n_ out i r r1 r2).bind g := by
 intro n
 induction n with
 | zero => intros; rfl
 | succ n ih => intros; simp only [gq98.l1, u6, u9, uc, u7, ih]
def gq98.F {R : Type} (kk : Int → List Int → Int → Bool → Option R) (r_b : List Int) (wae : Int) (w9b : Bool) (n_ : Int) : Option R :=
 gq98.l1 (fun out r r1 r2 => kk out r r1 r2) (fun i r3 r4 r5 => kk i r3 r4 r5) fuel n_ (0 : Int) (0 : Int) r_b wae w9b
theorem gq98.N (kk : Int → List Int → Int → Bool → Option R) (r_b wae w9b n_) : gq98.F (fun y0 y1 y2 y3 => (kk y0 y1 y2 y3).bind g) r_b wae w9b n_ = (gq98.F kk r_b wae w9b n_).bind g := by
 simp only [gq98.F, u6, u9, uc, u7, ← gq98.l1_nat]
def gq98 (r_b : List Int) (wae : Int) (w9b : Bool) (n_ : Int) : Option (Int × List Int × Int × Bool) := gq98.F (fun y0 y1 y2 y3 => some (y0, y1, y2, y3)) r_b wae w9b n_
def gq98.out : (Int × List Int × Int × Bool) → CRes := fun a => ⟨encL SV.enc [.one (.int .i64)] (a.1, ()), [encL SC.enc [.slv [1] (.int .u8), .int .i64, .bool] (a.2.1, a.2.2.1, a.2.2.2, ()), encL SC.enc [] ()]⟩
def gq98.ps : List PS := [.ptr [some ((.int .u8), false), none, none], .val [none]]
def gq98.sA : List SA := [.ptr [.slv [] (.int .u8), .int .i64, .bool], .v (.one (.int .i64))]
def gq98.fi : FI := FIs gq98.sA (Int × List Int × Int × Bool) (fun t => gq98 t.1.1 t.1.2.1 t.1.2.2.1 t.2.1) gq98.out gq98.ps
def gq98.E : Env := ⟨tt, lkF [], 53, 1, [], []⟩
def gq98.sh1 : SK := ⟨[.v (.one (.bptr 0 0)), .v (.one (.int .i64)), .v (.one (.int .i64)), .v (.one (.int .i64))], [.box [.slv [1] (.int .u8), .int .i64, .bool]]⟩
def gq98.sh1e0 : SK := ⟨[.v (.one (.bptr 0 0)), .v (.one (.int .i64))], [.box [.slv [1] (.int .u8), .int .i64, .bool]]⟩
def gq98.sh1r : SK := ⟨[.v (.one (.bptr 0 0)), .v (.one (.int .i64))], [.box [.slv [1] (.int .u8), .int .i64, .bool]]⟩
def gq98.ko1 : Ex → List u16 × List Nat
 | .nrm => ([], [])
 | .ret => ([], [0, 4])
 | .ext i => cond (Nat.beq i 0) ([], [0, 5]) ([], [])
def gq98.G1 (n : Nat) (R : Type) (t : gq98.sh1.T) (K : Ex → Kp → Option R) : Option R := gq98.l1 (fun y0 y1 y2 y3 => K (.ext 0) (SK.enc gq98.sh1e0 (((), y0, ()), ((y1, y2, y3, ()), ())))) (fun y0 y1 y2 y3 => K .ret (SK.enc gq98.sh1r (((), y0, ()), ((y1, y2, y3, ()), ())))) n t.1.2.1 t.1.2.2.1 t.1.2.2.2.1 t.2.1.1 t.2.1.2.1 t.2.1.2.2.1
def gq98.S1 : Sum := ⟨([], [0, 1, 5, 6]), sumF gq98.sh1 (gq98.G1 fuel), gq98.ko1⟩
theorem gq98.ok1 (hE : EOk Tryz.prog (gq98.E)) : u15 Tryz.prog gq98.E (cB (cR (cL (cR (cR (u5 Tryz.f98)))))) (gq98.S1) := by
 have hh : HintOk Tryz.prog gq98.E (cB (cB (cR (cL (cR (cR (u5 Tryz.f98))))))) (.a) := HintOk.n1 (Q := True) (by kernel_rfl) trivial
 have h := u2a (kin := ([], [0, 1, 5, 6])) (kout := gq98.ko1) (sh := gq98.sh1) (F := gq98.G1) (u1a (hE.gv _)) (by kernel_rfl) hh (fun _ _ _ => rfl) (fun n R t K => by kernel_rfl) fuel
 exact HintOk.n1 (c := (cB (cR (cL (cR (cR (u5 Tryz.f98))))))) (h := .s (gq98.S1)) (P := Tryz.prog) (E := gq98.E) (by kernel_rfl) h
theorem gq98.hok (hE : EOk Tryz.prog (gq98.E)) : HintOk Tryz.prog gq98.E (u5 Tryz.f98) (.n (.a) (.n (.a) (.n (.n (.a) (.b (.s (gq98.S1)))) (.a)))) := HintOk.n1 (Q := (True) ∧ ((True) ∧ (((True) ∧ (u15 Tryz.prog gq98.E (cB (cR (cL (cR (cR (u5 Tryz.f98)))))) (gq98.S1))) ∧ (True)))) (by kernel_rfl) ⟨trivial, ⟨trivial, ⟨⟨trivial, (gq98.ok1 hE)⟩, trivial⟩⟩⟩
theorem gq98.hE : EOk Tryz.prog (gq98.E) := EOk.of ttOk (trivial)
theorem gq98.fok : FOk Tryz.prog 98 gq98.fi :=
 fokS (E := gq98.E) (wy := ⟨[[none]], [[some ((.int .u8), false), none, none], []], []⟩) (h := (fun gs => .n (.a) (.n (.a) (.n (.n (.a) (.b (.s (gq98.S1)))) (.a))))) (G := fun t g => gq98.F (fun y0 y1 y2 y3 => g (y0, y1, y2, y3)) t.1.1 t.1.2.1 t.1.2.2.1 t.2.1) (by kernel_rfl) gq98.hE Tryz.func98 (by kernel_rfl) rfl (Nat.le_refl _) (fun t => HintOk.n1 (by kernel_rfl) (gq98.hok gq98.hE)) (fun t g => gq98.N g (fun y0 y1 y2 y3 => some (y0, y1, y2, y3)) _ _ _ _) (fun t => by kernel_rfl)
def gq94.j1 {R : Type} (kkn : Int → ByteArray → Int → Bool → Int → List (El u4) → Int → Int → Int → Int → List Int → List ByteArray → List ByteArray → List ByteArray → Option R) (kkr : Int → Int → Int → List ByteArray → List ByteArray → Option R) (i : Int) (data : ByteArray) (good : Int) (code : Int) (last : Bool) (d : Int) (d1 : List (El u4)) (i1 : Int) (i2 : Int) (w : Int) (w1 : Int) (list : List Int) (frames : List ByteArray) (l : List ByteArray) (l1 : List ByteArray) : Option R :=
 cond (code == (8 : Int)) (kkr (8 : Int) w w1 l l1) (
  cond (code == (16 : Int)) (
   cond (!last) (kkr (8 : Int) w w1 l l1) (kkn i data good last d d1 i1 i2 w w1 list frames l l1)) (kkn i data good last d d1 i1 i2 w w1 list frames l l1))
theorem gq94.j1_nat (kkn : Int → ByteArray → Int → Bool → Int → List (El u4) → Int → Int → Int → Int → List Int → List ByteArray → List ByteArray → List ByteArray → Option R) (kkr : Int → Int → Int → List ByteArray → List ByteArray → Option R) (i data good code last d d1 i1 i2 w w1 list frames l l1) : gq94.j1 (fun y0 y1 y2 y3 y4 y5 y6 y7 y8 y9 y10 y11 y12 y13 => (kkn y0 y1 y2 y3 y4 y5 y6 y7 y8 y9 y10 y11 y12 y13).bind g) (fun y0 y1 y2 y3 y4 => (kkr y0 y1 y2 y3 y4).bind g) i data good code last d d1 i1 i2 w w1 list frames l l1 = (gq94.j1 kkn kkr i data good code last d d1 i1 i2 w w1 list frames l l1).bind g := by
 simp only [gq94.j1, u6, u9, uc, u7]
def gq94.j2 {R : Type} (kkn : Int → ByteArray → Int → Bool → Int → List (El u4) → Int → Int → Int → Int → List Int → List ByteArray → List ByteArray → List ByteArray → Option R) (kkr : Int → Int → Int → List ByteArray → List ByteArray → Option R) (i : Int) (data : ByteArray) (good : Int) (last : Bool) (d : Int) (d1 : List (El u4)) (i1 : Int) (i2 : Int) (w : Int) (w1 : Int) (list : List Int) (frames : List ByteArray) (l : List ByteArray) (l1 : List ByteArray) : Option R :=
 cond (decide (i > (0 : Int))) (
  grd (gIx i (List.length list)) <|
  grd (gIx (IntKind.wrap .i64 (i - (1 : Int))) (List.length list)) <|
  cond ((rdE (.int .i64 : Kd) list (Int.toNat i)) != (IntKind.wrap .i64 ((rdE (.int .i64 : Kd) list (Int.toNat (IntKind.wrap .i64 (i - (1 : Int))))) + (1 : Int)))) (kkr (3 : Int) w w1 l l1) (kkn i data good last d d1 i1 i2 w w1 list frames l l1)) (kkn i data good last d d1 i1 i2 w w1 list frames l l1)
theorem gq94.j2_nat (kkn : Int → ByteArray → Int → Bool → Int → List (El u4) → Int → Int → Int → Int → List Int → List ByteArray → List ByteArray → List ByteArray → Option R) (kkr : Int → Int → Int → List ByteArray → List ByteArray → Option R) (i data good last d d1 i1 i2 w w1 list frames l l1) : gq94.j2 (fun y0 y1 y2 y3 y4 y5 y6 y7 y8 y9 y10 y11 y12 y13 => (kkn y0 y1 y2 y3 y4 y5 y6 y7 y8 y9 y10 y11 y12 y13).bind g) (fun y0 y1 y2 y3 y4 => (kkr y0 y1 y2 y3 y4).bind g) i data good last d d1 i1 i2 w w1 list frames l l1 = (gq94.j2 kkn kkr i data good last d d1 i1 i2 w w1 list frames l l1).bind g := by
 simp only [gq94.j2, u6, u9, uc, u7]
def gq94.j3 {R : Type} (kkn : Int → ByteArray → Int → Int → List (El u4) → Int → Int → Int → Int → List Int → List ByteArray → List ByteArray → List ByteArray → Option R) (kkr : Int → Int → Int → List ByteArray → List ByteArray → Option R) (i : Int) (data : ByteArray) (good : Int) (first : Int) (d : Int) (d1 : List (El u4)) (i1 : Int) (i2 : Int) (w : Int) (w1 : Int) (list : List Int) (frames : List ByteArray) (l : List ByteArray) (l1 : List ByteArray) : Option R :=
 cond (i == (0 : Int)) (kkn i data good d d1 i1 i2 first w1 list frames l l1) (
  cond (first != (IntKind.wrap .i64 (w + (List.length l : Int)))) (kkr (3 : Int) w w1 l l1) (kkn i data good d d1 i1 i2 w w1 list frames l l1))
theorem gq94.j3_nat (kkn : Int → ByteArray → Int → Int → List (El u4) → Int → Int → Int → Int → List Int → List ByteArray → List ByteArray → List ByteArray → Option R) (kkr : Int → Int → Int → List ByteArray → List ByteArray → Option R) (i data good first d d1 i1 i2 w w1 list frames l l1) : gq94.j3 (fun y0 y1 y2 y3 y4 y5 y6 y7 y8 y9 y10 y11 y12 => (kkn y0 y1 y2 y3 y4 y5 y6 y7 y8 y9 y10 y11 y12).bind g) (fun y0 y1 y2 y3 y4 => (kkr y0 y1 y2 y3 y4).bind g) i data good first d d1 i1 i2 w w1 list frames l l1 = (gq94.j3 kkn kkr i data good first d d1 i1 i2 w w1 list frames l l1).bind g := by
 simp only [gq94.j3, u6, u9, uc, u7]
def gq94.l4 {R : Type} (kke0 : Int → Int → Int → Int → List ByteArray → List ByteArray → Option R) (kkr : Int → Int → Int → List ByteArray → List ByteArray → Option R) : Nat → Int → Int → List (El u4) → Int → Int → Int → Int → List Int → List ByteArray → List ByteArray → Option R
 | 0, _, _, _, _, _, _, _, _, _, _ => none
 | n + 1, i, d, d1, i1, i2, w, w1, list, l, l1 =>
  cond (decide (i < (List.length list : Int))) (
   grd (gIx i (List.length list)) <|
   (gq96 d d1 (rdE (.int .i64 : Kd) list (Int.toNat i))).bind fun r =>
   (gq97 (bytesL r)).bind fun r1 =>
   gq94.j1 (fun i3 data good last d2 d3 i4 i5 w2 w3 list1 frames l2 l3 =>
    gq94.j2 (fun i6 data1 good1 last1 d4 d5 i7 i8 w4 w5 list2 frames1 l4 l5 =>
     cond ((List.length frames1 : Int) == (0 : Int)) (
      cond (!last1) (kkr (3 : Int) w4 w5 l4 l5) (
       grd (gIx i6 (List.length list2)) <|
       (gq99 (rdE (.int .i64 : Kd) list2 (Int.toNat i6))).bind fun r2 =>
       grd (gRm (((List.length l5) + (List.length [r2])) * 16)) <|
       kkr (0 : Int) w4 (ByteArray.size data1 : Int) l4 (l5 ++ [r2]))) (
      grd (gIx (0 : Int) (List.length frames1)) <|
      cond ((ByteArray.size (rdE (.str : Kd) frames1 (Int.toNat (0 : Int))) : Int) != (4 : Int)) (kkr (3 : Int) w4 w5 l4 l5) (
       grd (gIx (0 : Int) (List.length frames1)) <|
       (gq98 (bytesL (rdE (.str : Kd) frames1 (Int.toNat (0 : Int)))) (0 : Int) false (4 : Int)).bind fun r3 =>
       gq94.j3 (fun i9 data2 good2 d6 d7 i10 i11 w6 w7 list3 frames2 l6 l7 =>
        grd (gIx i9 (List.length list3)) <|
        (gq99 (rdE (.int .i64 : Kd) list3 (Int.toNat i9))).bind fun r4 =>
        grd (gRm (((List.length l7) + (List.length [r4])) * 16)) <|
        grd (gSl (1 : Int) (List.length frames2 : Int) (List.length frames2)) <|
        grd (gRm (((List.length l6) + (List.length (sub frames2 (1 : Int) (List.length frames2 : Int)))) * 16)) <|
        gq94.l4 kke0 kkr n (IntKind.wrap .i64 (i9 + (1 : Int))) d6 d7 i10 i11 w6 (IntKind.wrap .i64 ((ByteArray.size data2 : Int) - good2)) list3 (l6 ++ (sub frames2 (1 : Int) (List.length frames2 : Int))) (l7 ++ [r4])) (fun i12 i13 i14 l8 l9 => kkr i12 i13 i14 l8 l9) i6 data1 good1 r3.1 d4 d5 i7 i8 w4 w5 list2 frames1 l4 l5))) (fun i15 i16 i17 l10 l11 => kkr i15 i16 i17 l10 l11) i3 data good last d2 d3 i4 i5 w2 w3 list1 frames l2 l3) (fun i18 i19 i20 l12 l13 => kkr i18 i19 i20 l12 l13) i r r1.2.1 r1.2.2 (i == (IntKind.wrap .i64 ((List.length list : Int) - (1 : Int)))) d d1 i1 i2 w w1 list r1.1 l l1) (kke0 i1 i2 w w1 l l1)
theorem gq94.l4_nat (kke0 : Int → Int → Int → Int → List ByteArray → List ByteArray → Option R) (kkr : Int → Int → Int → List ByteArray → List ByteArray → Option R) : ∀ n i d d1 i1 i2 w w1 list l l1, gq94.l4 (fun y0 y1 y2 y3 y4 y5 => (kke0 y0 y1 y2 y3 y4 y5).bind g) (fun y0 y1 y2 y3 y4 => (kkr y0 y1 y2 y3 y4).bind g) n i d d1 i1 i2 w w1 list l l1 = (gq94.l4 kke0 kkr n i d d1 i1 i2 w w1 list l l1).bind g := by
 intro n
 induction n with
 | zero => intros; rfl
 | succ n ih => intros; simp only [gq94.l4, u6, u9, uc, u7, ← gq94.j1_nat, ← gq94.j2_nat, ← gq94.j3_nat, ih]
def gq94.F {R : Type} (kk : Int → List ByteArray → List ByteArray → Int → Int → Option R) (w94 : Int) (w93 : List (El u4)) : Option R :=
 (gq95 w94 w93).bind fun r =>
 gq94.l4 (fun i i1 w w1 l l1 => kk w l l1 w1 (0 : Int)) (fun i2 i3 i4 l2 l3 => kk i3 l2 l3 i4 i2) fuel (0 : Int) w94 w93 (0 : Int) (0 : Int) (0 : Int) (0 : Int) r ([] : List ByteArray) ([] : List ByteArray)
theorem gq94.N (kk : Int → List ByteArray → List ByteArray → Int → Int → Option R) (w94 w93) : gq94.F (fun y0 y1 y2 y3 y4 => (kk y0 y1 y2 y3 y4).bind g) w94 w93 = (gq94.F kk w94 w93).bind g := by
 simp only [gq94.F, u6, u9, uc, u7, ← gq94.l4_nat]
def gq94 (w94 : Int) (w93 : List (El u4)) : Option (Int × List ByteArray × List ByteArray × Int × Int) := gq94.F (fun y0 y1 y2 y3 y4 => some (y0, y1, y2, y3, y4)) w94 w93
def gq94.out : (Int × List ByteArray × List ByteArray × Int × Int) → CRes := fun a => ⟨encL SV.enc [.agg [.int .i64, .own [] .str true, .own [] .str true, .int .i64], .one (.int .i64)] ((a.1, a.2.1, a.2.2.1, a.2.2.2.1, ()), a.2.2.2.2, ()), [encL SC.enc [] ()]⟩
def gq94.ps : List PS := [.val [none, some (u4, false)]]
def gq94.sA : List SA := [.v (.agg [.int .i64, .slv [] u4])]
def gq94.fi : FI := FIs gq94.sA (Int × List ByteArray × List ByteArray × Int × Int) (fun t => gq94 t.1.1 t.1.2.1) gq94.out gq94.ps
def gq94.E : Env := ⟨tt, lkF [(95, gq95.fi), (96, gq96.fi), (97, gq97.fi), (98, gq98.fi), (99, gq99.fi)], 139, 0, [], []⟩
def gq94.sh1 : SK := ⟨[.v (.one (.bptr 0 0)), .v (.one (.bptr 1 0)), .v (.one (.bptr 2 0)), .v (.one (.slo 3)), .v (.one (.int .i64)), .v (.one (.str)), .v (.one (.slo 4)), .v (.one (.int .i64)), .v (.one (.int .i64)), .v (.one (.bool))], [.box [.int .i64, .slv [1] u4], .box [.int .i64, .nil, .nil, .int .i64], .box [.int .i64, .slo 5, .slo 6, .int .i64], .arr (.int .i64) [] true, .arr .str [] true, .arr .str [] true, .arr .str [] true]⟩
def gq94.sh1n : SK := ⟨[.v (.one (.bptr 0 0)), .v (.one (.bptr 1 0)), .v (.one (.bptr 2 0)), .v (.one (.slo 3)), .v (.one (.int .i64)), .v (.one (.str)), .v (.one (.slo 4)), .v (.one (.int .i64)), .v (.one (.bool))], [.box [.int .i64, .slv [1] u4], .box [.int .i64, .nil, .nil, .int .i64], .box [.int .i64, .slo 5, .slo 6, .int .i64], .arr (.int .i64) [] true, .arr .str [] true, .arr .str [] true, .arr .str [] true]⟩
def gq94.sh1r : SK := ⟨[.v (.one (.bptr 0 0)), .v (.one (.int .i64))], [.box [.int .i64, .slo 1, .slo 2, .int .i64], .arr .str [] true, .arr .str [] true]⟩
def gq94.ko1 : Ex → List u16 × List Nat
 | .nrm => ([], [1, 2, 4, 5, 6, 7, 8, 9, 11])
 | .ret => ([], [2, 3])
 | .ext i => ([], [])
def gq94.G1 (R : Type) (t : gq94.sh1.T) (K : Ex → Kp → Option R) : Option R := gq94.j1 (fun y0 y1 y2 y3 y4 y5 y6 y7 y8 y9 y10 y11 y12 y13 => K .nrm (SK.enc gq94.sh1n (((), (), (), (), y0, y1, (), y2, y3, ()), ((y4, y5, ()), (y6, (), (), y7, ()), (y8, (), (), y9, ()), y10, y11, y12, y13, ())))) (fun y0 y1 y2 y3 y4 => K .ret (SK.enc gq94.sh1r (((), y0, ()), ((y1, (), (), y2, ()), y3, y4, ())))) t.1.2.2.2.2.1 t.1.2.2.2.2.2.1 t.1.2.2.2.2.2.2.2.1 t.1.2.2.2.2.2.2.2.2.1 t.1.2.2.2.2.2.2.2.2.2.1 t.2.1.1 t.2.1.2.1 t.2.2.1.1 t.2.2.1.2.2.2.1 t.2.2.2.1.1 t.2.2.2.1.2.2.2.1 t.2.2.2.2.1 t.2.2.2.2.2.1 t.2.2.2.2.2.2.1 t.2.2.2.2.2.2.2.1
def gq94.S1 : Sum := ⟨([], [1, 2, 4, 5, 6, 7, 8, 9, 10, 11]), sumF gq94.sh1 (gq94.G1), gq94.ko1⟩
theorem gq94.ok1 (hE : EOk Tryz.prog (gq94.E)) : u15 Tryz.prog gq94.E (cL (cR (cR (cR (cB (cL (cR (cB (cB (cR (cL (cR (cR (cR (u5 Tryz.f94))))))))))))))) (gq94.S1) := by
 have hh : HintOk Tryz.prog gq94.E (cL (cR (cR (cR (cB (cL (cR (cB (cB (cR (cL (cR (cR (cR (u5 Tryz.f94))))))))))))))) (.a) := HintOk.n1 (Q := True) (by kernel_rfl) trivial
 exact sumS (kin := ([], [1, 2, 4, 5, 6, 7, 8, 9, 10, 11])) (kout := gq94.ko1) (sh := gq94.sh1) (F := gq94.G1) (u1a (hE.gv _)) (by kernel_rfl) hh (fun R t K => by kernel_rfl)
def gq94.sh2 : SK := ⟨[.v (.one (.bptr 0 0)), .v (.one (.bptr 1 0)), .v (.one (.bptr 2 0)), .v (.one (.slo 3)), .v (.one (.int .i64)), .v (.one (.str)), .v (.one (.slo 4)), .v (.one (.int .i64)), .v (.one (.bool))], [.box [.int .i64, .slv [1] u4], .box [.int .i64, .nil, .nil, .int .i64], .box [.int .i64, .slo 5, .slo 6, .int .i64], .arr (.int .i64) [] true, .arr .str [] true, .arr .str [] true, .arr .str [] true]⟩
def gq94.sh2n : SK := ⟨[.v (.one (.bptr 0 0)), .v (.one (.bptr 1 0)), .v (.one (.bptr 2 0)), .v (.one (.slo 3)), .v (.one (.int .i64)), .v (.one (.str)), .v (.one (.slo 4)), .v (.one (.int .i64)), .v (.one (.bool))], [.box [.int .i64, .slv [1] u4], .box [.int .i64, .nil, .nil, .int .i64], .box [.int .i64, .slo 5, .slo 6, .int .i64], .arr (.int .i64) [] true, .arr .str [] true, .arr .str [] true, .arr .str [] true]⟩
def gq94.sh2r : SK := ⟨[.v (.one (.bptr 0 0)), .v (.one (.int .i64))], [.box [.int .i64, .slo 1, .slo 2, .int .i64], .arr .str [] true, .arr .str [] true]⟩
def gq94.ko2 : Ex → List u16 × List Nat
 | .nrm => ([], [1, 2, 4, 5, 6, 7, 8, 9, 11])
 | .ret => ([], [2, 3])
 | .ext i => ([], [])
def gq94.G2 (R : Type) (t : gq94.sh2.T) (K : Ex → Kp → Option R) : Option R := gq94.j2 (fun y0 y1 y2 y3 y4 y5 y6 y7 y8 y9 y10 y11 y12 y13 => K .nrm (SK.enc gq94.sh2n (((), (), (), (), y0, y1, (), y2, y3, ()), ((y4, y5, ()), (y6, (), (), y7, ()), (y8, (), (), y9, ()), y10, y11, y12, y13, ())))) (fun y0 y1 y2 y3 y4 => K .ret (SK.enc gq94.sh2r (((), y0, ()), ((y1, (), (), y2, ()), y3, y4, ())))) t.1.2.2.2.2.1 t.1.2.2.2.2.2.1 t.1.2.2.2.2.2.2.2.1 t.1.2.2.2.2.2.2.2.2.1 t.2.1.1 t.2.1.2.1 t.2.2.1.1 t.2.2.1.2.2.2.1 t.2.2.2.1.1 t.2.2.2.1.2.2.2.1 t.2.2.2.2.1 t.2.2.2.2.2.1 t.2.2.2.2.2.2.1 t.2.2.2.2.2.2.2.1
def gq94.S2 : Sum := ⟨([], [1, 2, 4, 5, 6, 7, 8, 9, 11]), sumF gq94.sh2 (gq94.G2), gq94.ko2⟩
theorem gq94.ok2 (hE : EOk Tryz.prog (gq94.E)) : u15 Tryz.prog gq94.E (cL (cR (cR (cR (cR (cB (cL (cR (cB (cB (cR (cL (cR (cR (cR (u5 Tryz.f94)))))))))))))))) (gq94.S2) := by
 have hh : HintOk Tryz.prog gq94.E (cL (cR (cR (cR (cR (cB (cL (cR (cB (cB (cR (cL (cR (cR (cR (u5 Tryz.f94)))))))))))))))) (.a) := HintOk.n1 (Q := True) (by kernel_rfl) trivial
 exact sumS (kin := ([], [1, 2, 4, 5, 6, 7, 8, 9, 11])) (kout := gq94.ko2) (sh := gq94.sh2) (F := gq94.G2) (u1a (hE.gv _)) (by kernel_rfl) hh (fun R t K => by kernel_rfl)
def gq94.sh3 : SK := ⟨[.v (.one (.bptr 0 0)), .v (.one (.bptr 1 0)), .v (.one (.bptr 2 0)), .v (.one (.slo 3)), .v (.one (.int .i64)), .v (.one (.str)), .v (.one (.slo 4)), .v (.one (.int .i64)), .v (.one (.int .i64))], [.box [.int .i64, .slv [1] u4], .box [.int .i64, .nil, .nil, .int .i64], .box [.int .i64, .slo 5, .slo 6, .int .i64], .arr (.int .i64) [] true, .arr .str [] true, .arr .str [] true, .arr .str [] true]⟩
def gq94.sh3n : SK := ⟨[.v (.one (.bptr 0 0)), .v (.one (.bptr 1 0)), .v (.one (.bptr 2 0)), .v (.one (.slo 3)), .v (.one (.int .i64)), .v (.one (.str)), .v (.one (.slo 4)), .v (.one (.int .i64))], [.box [.int .i64, .slv [1] u4], .box [.int .i64, .nil, .nil, .int .i64], .box [.int .i64, .slo 5, .slo 6, .int .i64], .arr (.int .i64) [] true, .arr .str [] true, .arr .str [] true, .arr .str [] true]⟩
def gq94.sh3r : SK := ⟨[.v (.one (.bptr 0 0)), .v (.one (.int .i64))], [.box [.int .i64, .slo 1, .slo 2, .int .i64], .arr .str [] true, .arr .str [] true]⟩
def gq94.ko3 : Ex → List u16 × List Nat
 | .nrm => ([], [1, 2, 4, 5, 6, 7, 8, 9])
 | .ret => ([], [2, 3])
 | .ext i => ([], [])
def gq94.G3 (R : Type) (t : gq94.sh3.T) (K : Ex → Kp → Option R) : Option R := gq94.j3 (fun y0 y1 y2 y3 y4 y5 y6 y7 y8 y9 y10 y11 y12 => K .nrm (SK.enc gq94.sh3n (((), (), (), (), y0, y1, (), y2, ()), ((y3, y4, ()), (y5, (), (), y6, ()), (y7, (), (), y8, ()), y9, y10, y11, y12, ())))) (fun y0 y1 y2 y3 y4 => K .ret (SK.enc gq94.sh3r (((), y0, ()), ((y1, (), (), y2, ()), y3, y4, ())))) t.1.2.2.2.2.1 t.1.2.2.2.2.2.1 t.1.2.2.2.2.2.2.2.1 t.1.2.2.2.2.2.2.2.2.1 t.2.1.1 t.2.1.2.1 t.2.2.1.1 t.2.2.1.2.2.2.1 t.2.2.2.1.1 t.2.2.2.1.2.2.2.1 t.2.2.2.2.1 t.2.2.2.2.2.1 t.2.2.2.2.2.2.1 t.2.2.2.2.2.2.2.1
def gq94.S3 : Sum := ⟨([], [1, 2, 4, 5, 6, 7, 8, 9, 13]), sumF gq94.sh3 (gq94.G3), gq94.ko3⟩
theorem gq94.ok3 (hE : EOk Tryz.prog (gq94.E)) : u15 Tryz.prog gq94.E (cL (cR (cR (cR (cR (cR (cR (cR (cR (cR (cB (cL (cR (cB (cB (cR (cL (cR (cR (cR (u5 Tryz.f94))))))))))))))))))))) (gq94.S3) := by
 have hh : HintOk Tryz.prog gq94.E (cL (cR (cR (cR (cR (cR (cR (cR (cR (cR (cB (cL (cR (cB (cB (cR (cL (cR (cR (cR (u5 Tryz.f94))))))))))))))))))))) (.a) := HintOk.n1 (Q := True) (by kernel_rfl) trivial
 exact sumS (kin := ([], [1, 2, 4, 5, 6, 7, 8, 9, 13])) (kout := gq94.ko3) (sh := gq94.sh3) (F := gq94.G3) (u1a (hE.gv _)) (by kernel_rfl) hh (fun R t K => by kernel_rfl)
def gq94.sh4 : SK := ⟨[.v (.one (.bptr 0 0)), .v (.one (.bptr 1 0)), .v (.one (.bptr 2 0)), .v (.one (.slo 3)), .v (.one (.int .i64))], [.box [.int .i64, .slv [1] u4], .box [.int .i64, .nil, .nil, .int .i64], .box [.int .i64, .slo 4, .slo 5, .int .i64], .arr (.int .i64) [] true, .arr .str [] true, .arr .str [] true]⟩
def gq94.sh4e0 : SK := ⟨[.v (.one (.bptr 0 0)), .v (.one (.bptr 1 0))], [.box [.int .i64, .nil, .nil, .int .i64], .box [.int .i64, .slo 2, .slo 3, .int .i64], .arr .str [] true, .arr .str [] true]⟩
def gq94.sh4r : SK := ⟨[.v (.one (.bptr 0 0)), .v (.one (.int .i64))], [.box [.int .i64, .slo 1, .slo 2, .int .i64], .arr .str [] true, .arr .str [] true]⟩
def gq94.ko4 : Ex → List u16 × List Nat
 | .nrm => ([], [])
 | .ret => ([], [2, 3])
 | .ext i => cond (Nat.beq i 0) ([], [2, 4]) ([], [])
def gq94.G4 (n : Nat) (R : Type) (t : gq94.sh4.T) (K : Ex → Kp → Option R) : Option R := gq94.l4 (fun y0 y1 y2 y3 y4 y5 => K (.ext 0) (SK.enc gq94.sh4e0 (((), (), ()), ((y0, (), (), y1, ()), (y2, (), (), y3, ()), y4, y5, ())))) (fun y0 y1 y2 y3 y4 => K .ret (SK.enc gq94.sh4r (((), y0, ()), ((y1, (), (), y2, ()), y3, y4, ())))) n t.1.2.2.2.2.1 t.2.1.1 t.2.1.2.1 t.2.2.1.1 t.2.2.1.2.2.2.1 t.2.2.2.1.1 t.2.2.2.1.2.2.2.1 t.2.2.2.2.1 t.2.2.2.2.2.1 t.2.2.2.2.2.2.1
def gq94.S4 : Sum := ⟨([], [1, 2, 4, 5, 6]), sumF gq94.sh4 (gq94.G4 fuel), gq94.ko4⟩
theorem gq94.ok4 (hE : EOk Tryz.prog (gq94.E)) : u15 Tryz.prog gq94.E (cB (cR (cL (cR (cR (cR (u5 Tryz.f94))))))) (gq94.S4) := by
 have hh : HintOk Tryz.prog gq94.E (cB (cB (cR (cL (cR (cR (cR (u5 Tryz.f94)))))))) (.n (.a) (.n (.b (.n (.a) (.n (.a) (.n (.a) (.n (.s (gq94.S1)) (.n (.s (gq94.S2)) (.n (.a) (.n (.a) (.n (.a) (.n (.a) (.n (.s (gq94.S3)) (.a)))))))))))) (.a))) := HintOk.n1 (Q := (True) ∧ (((True) ∧ ((True) ∧ ((True) ∧ ((u15 Tryz.prog gq94.E (cL (cR (cR (cR (cB (cL (cR (cB (cB (cR (cL (cR (cR (cR (u5 Tryz.f94))))))))))))))) (gq94.S1)) ∧ ((u15 Tryz.prog gq94.E (cL (cR (cR (cR (cR (cB (cL (cR (cB (cB (cR (cL (cR (cR (cR (u5 Tryz.f94)))))))))))))))) (gq94.S2)) ∧ ((True) ∧ ((True) ∧ ((True) ∧ ((True) ∧ ((u15 Tryz.prog gq94.E (cL (cR (cR (cR (cR (cR (cR (cR (cR (cR (cB (cL (cR (cB (cB (cR (cL (cR (cR (cR (u5 Tryz.f94))))))))))))))))))))) (gq94.S3)) ∧ (True))))))))))) ∧ (True))) (by kernel_rfl) ⟨trivial, ⟨⟨trivial, ⟨trivial, ⟨trivial, ⟨(gq94.ok1 hE), ⟨(gq94.ok2 hE), ⟨trivial, ⟨trivial, ⟨trivial, ⟨trivial, ⟨(gq94.ok3 hE), trivial⟩⟩⟩⟩⟩⟩⟩⟩⟩⟩, trivial⟩⟩
 have h := u2a (kin := ([], [1, 2, 4, 5, 6])) (kout := gq94.ko4) (sh := gq94.sh4) (F := gq94.G4) (u1a (hE.gv _)) (by kernel_rfl) hh (fun _ _ _ => rfl) (fun n R t K => by kernel_rfl) fuel
 exact HintOk.n1 (c := (cB (cR (cL (cR (cR (cR (u5 Tryz.f94)))))))) (h := .s (gq94.S4)) (P := Tryz.prog) (E := gq94.E) (by kernel_rfl) h
theorem gq94.hok (hE : EOk Tryz.prog (gq94.E)) : HintOk Tryz.prog gq94.E (u5 Tryz.f94) (.n (.a) (.n (.a) (.n (.a) (.n (.n (.a) (.b (.s (gq94.S4)))) (.a))))) := HintOk.n1 (Q := (True) ∧ ((True) ∧ ((True) ∧ (((True) ∧ (u15 Tryz.prog gq94.E (cB (cR (cL (cR (cR (cR (u5 Tryz.f94))))))) (gq94.S4))) ∧ (True))))) (by kernel_rfl) ⟨trivial, ⟨trivial, ⟨trivial, ⟨⟨trivial, (gq94.ok4 hE)⟩, trivial⟩⟩⟩⟩
theorem gq94.hE : EOk Tryz.prog (gq94.E) := EOk.of ttOk (⟨gq95.fok, ⟨gq96.fok, ⟨gq97.fok, ⟨gq98.fok, ⟨gq99.fok, trivial⟩⟩⟩⟩⟩)
theorem gq94.fok : FOk Tryz.prog 94 gq94.fi :=
 fokS (E := gq94.E) (wy := ⟨[[none, some (.str, true), some (.str, true), none], [none]], [[]], []⟩) (h := (fun gs => .n (.a) (.n (.a) (.n (.a) (.n (.n (.a) (.b (.s (gq94.S4)))) (.a)))))) (G := fun t g => gq94.F (fun y0 y1 y2 y3 y4 => g (y0, y1, y2, y3, y4)) t.1.1 t.1.2.1) (by kernel_rfl) gq94.hE Tryz.func94 (by kernel_rfl) rfl (Nat.le_refl _) (fun t => HintOk.n1 (by kernel_rfl) (gq94.hok gq94.hE)) (fun t g => gq94.N g (fun y0 y1 y2 y3 y4 => some (y0, y1, y2, y3, y4)) _ _) (fun t => by kernel_rfl)
end
end Go.Proofs.YtaanadbpnmcbcaaGreatDoorA
