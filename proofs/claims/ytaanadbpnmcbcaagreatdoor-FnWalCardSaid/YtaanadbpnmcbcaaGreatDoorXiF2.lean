/-
  Functions of the program, and that the small machine's runs are these. No condition.
  Printed by wip/amp/main.py (a session's own program) out of Lean's print of the program; Lean's kernel checks it.
-/
import Derived.Test.YtaanadbpnmcbcaaGreatDoorXiF1
namespace Go.Proofs.YtaanadbpnmcbcaaGreatDoorA
open Go
noncomputable section
set_option linter.unusedVariables false
set_option linter.unusedSimpArgs false
set_option maxRecDepth 100000
def gq28.F {R : Type} (kk : Int → List (El kFile) → Int → Option R) (d_Room : Int) (d_Files : List (El kFile)) : Option R :=
 (gq65 d_Room d_Files).bind fun r =>
 cond (!r) (kk (0 : Int) [] (1 : Int)) (
  (gq72 d_Room d_Files).bind fun r1 =>
  kk r1.1 r1.2 (0 : Int))
theorem gq28.F_nat {R S : Type} (g : R → Option S) (kk : Int → List (El kFile) → Int → Option R) (d_Room d_Files) : gq28.F (fun y0 y1 y2 => (kk y0 y1 y2).bind g) d_Room d_Files = (gq28.F kk d_Room d_Files).bind g := by
 simp only [gq28.F, grd_bind, cnd_bind, bnd_bind, non_bind]
def gq28 (d_Room : Int) (d_Files : List (El kFile)) : Option (Int × List (El kFile) × Int) := gq28.F (fun y0 y1 y2 => some (y0, y1, y2)) d_Room d_Files
def gq28.out : (Int × List (El kFile) × Int) → CRes := fun a => ⟨encL SV.enc [.agg [.int .i64, .own [] kFile true], .one (.int .i64)] ((a.1, a.2.1, ()), a.2.2, ()), [encL SC.enc [] ()]⟩
def gq28.ps : List PS := [.val [none, some (kFile, false)]]
def gq28.sA : List SA := [.v (.agg [.int .i64, .slv [] kFile])]
def gq28.fi : FI := FIs gq28.sA (Int × List (El kFile) × Int) (fun t => gq28 t.1.1 t.1.2.1) gq28.out gq28.ps
def gq28.E : Env := ⟨tt, lkF [(65, gq65.fi), (72, gq72.fi)], 10, 0, [], []⟩
theorem gq28.hok (hE : EOk Tryz.prog (gq28.E)) : HintOk Tryz.prog gq28.E (bodyOf Tryz.f28) (.a) := HintOk.n1 (Q := True) (by kernel_rfl) trivial
theorem gq28.hE : EOk Tryz.prog (gq28.E) := EOk.of ttOk (⟨gq65.fok, ⟨gq72.fok, trivial⟩⟩)
theorem gq28.fok : FOk Tryz.prog 28 gq28.fi :=
 fokS (E := gq28.E) (wy := ⟨[[none, some (kFile, true)], [none]], [[]], []⟩) (h := (fun gs => .a)) (G := fun t g => gq28.F (fun y0 y1 y2 => g (y0, y1, y2)) t.1.1 t.1.2.1) (by kernel_rfl) gq28.hE Tryz.func28 (by kernel_rfl) rfl (Nat.le_refl _) (fun t => HintOk.n1 (by kernel_rfl) (gq28.hok gq28.hE)) (fun t g => gq28.F_nat g (fun y0 y1 y2 => some (y0, y1, y2)) _ _) (fun t => by kernel_rfl)
def gq50.F {R : Type} (kk : Int → List (El kFile) → Option R) (d_Room : Int) (d_Files : List (El kFile)) : Option R :=
 grd (gRm (((List.length ([] : List (El kFile))) + (List.length d_Files)) * 40)) <|
 kk d_Room (([] : List (El kFile)) ++ d_Files)
theorem gq50.F_nat {R S : Type} (g : R → Option S) (kk : Int → List (El kFile) → Option R) (d_Room d_Files) : gq50.F (fun y0 y1 => (kk y0 y1).bind g) d_Room d_Files = (gq50.F kk d_Room d_Files).bind g := by
 simp only [gq50.F, grd_bind, cnd_bind, bnd_bind, non_bind]
def gq50 (d_Room : Int) (d_Files : List (El kFile)) : Option (Int × List (El kFile)) := gq50.F (fun y0 y1 => some (y0, y1)) d_Room d_Files
def gq50.out : (Int × List (El kFile)) → CRes := fun a => ⟨encL SV.enc [.agg [.int .i64, .own [] kFile true]] ((a.1, a.2, ()), ()), [encL SC.enc [] ()]⟩
def gq50.ps : List PS := [.val [none, some (kFile, false)]]
def gq50.sA : List SA := [.v (.agg [.int .i64, .slv [] kFile])]
def gq50.fi : FI := FIs gq50.sA (Int × List (El kFile)) (fun t => gq50 t.1.1 t.1.2.1) gq50.out gq50.ps
def gq50.E : Env := ⟨tt, lkF [], 10, 0, [], []⟩
theorem gq50.hok (hE : EOk Tryz.prog (gq50.E)) : HintOk Tryz.prog gq50.E (bodyOf Tryz.f50) (.a) := HintOk.n1 (Q := True) (by kernel_rfl) trivial
theorem gq50.hE : EOk Tryz.prog (gq50.E) := EOk.of ttOk (trivial)
theorem gq50.fok : FOk Tryz.prog 50 gq50.fi :=
 fokS (E := gq50.E) (wy := ⟨[[none, some (kFile, true)]], [[]], []⟩) (h := (fun gs => .a)) (G := fun t g => gq50.F (fun y0 y1 => g (y0, y1)) t.1.1 t.1.2.1) (by kernel_rfl) gq50.hE Tryz.func50 (by kernel_rfl) rfl (Nat.le_refl _) (fun t => HintOk.n1 (by kernel_rfl) (gq50.hok gq50.hE)) (fun t g => gq50.F_nat g (fun y0 y1 => some (y0, y1)) _ _) (fun t => by kernel_rfl)
def gq125.j1 {R : Type} (kkn : Bool → Int → Int → List (El kFile) → ByteArray → ByteArray → Int → Int → Int → List (El kFile) → Option R) (put : Bool) (i : Int) (d : Int) (d1 : List (El kFile)) (f : ByteArray) (f1 : ByteArray) (f2 : Int) (i1 : Int) (out : Int) (l : List (El kFile)) : Option R :=
 cond (!put) (
  grd (gIx i (List.length d1)) <|
  cond (!(sLt (rdE kFile d1 (Int.toNat i)).1 f)) (
   grd (gRm (((List.length l) + (List.length [(f, (f1, f2))])) * 40)) <|
   kkn true i d d1 f f1 f2 i1 out (l ++ [(f, (f1, f2))])) (kkn put i d d1 f f1 f2 i1 out l)) (kkn put i d d1 f f1 f2 i1 out l)
theorem gq125.j1_nat {R S : Type} (g : R → Option S) (kkn : Bool → Int → Int → List (El kFile) → ByteArray → ByteArray → Int → Int → Int → List (El kFile) → Option R) (put i d d1 f f1 f2 i1 out l) : gq125.j1 (fun y0 y1 y2 y3 y4 y5 y6 y7 y8 y9 => (kkn y0 y1 y2 y3 y4 y5 y6 y7 y8 y9).bind g) put i d d1 f f1 f2 i1 out l = (gq125.j1 kkn put i d d1 f f1 f2 i1 out l).bind g := by
 simp only [gq125.j1, grd_bind, cnd_bind, bnd_bind, non_bind]
def gq125.l2 {R : Type} (kke0 : Bool → ByteArray → ByteArray → Int → Int → Int → List (El kFile) → Option R) : Nat → Bool → Int → Int → List (El kFile) → ByteArray → ByteArray → Int → Int → Int → List (El kFile) → Option R
 | 0, _, _, _, _, _, _, _, _, _, _ => none
 | n + 1, put, i, d, d1, f, f1, f2, i1, out, l =>
  cond (decide (i < (List.length d1 : Int))) (
   gq125.j1 (fun put1 i2 d2 d3 f3 f4 f5 i3 out1 l1 =>
    grd (gIx i2 (List.length d3)) <|
    cond (!(sEq (rdE kFile d3 (Int.toNat i2)).1 f3)) (
     grd (gIx i2 (List.length d3)) <|
     grd (gRm (((List.length l1) + (List.length [rdE kFile d3 (Int.toNat i2)])) * 40)) <|
     gq125.l2 kke0 n put1 (IntKind.wrap .i64 (i2 + (1 : Int))) d2 d3 f3 f4 f5 i3 out1 (l1 ++ [rdE kFile d3 (Int.toNat i2)])) (gq125.l2 kke0 n put1 (IntKind.wrap .i64 (i2 + (1 : Int))) d2 d3 f3 f4 f5 i3 out1 l1)) put i d d1 f f1 f2 i1 out l) (kke0 put f f1 f2 i1 out l)
theorem gq125.l2_nat {R S : Type} (g : R → Option S) (kke0 : Bool → ByteArray → ByteArray → Int → Int → Int → List (El kFile) → Option R) : ∀ n put i d d1 f f1 f2 i1 out l, gq125.l2 (fun y0 y1 y2 y3 y4 y5 y6 => (kke0 y0 y1 y2 y3 y4 y5 y6).bind g) n put i d d1 f f1 f2 i1 out l = (gq125.l2 kke0 n put i d d1 f f1 f2 i1 out l).bind g := by
 intro n
 induction n with
 | zero => intros; rfl
 | succ n ih => intros; simp only [gq125.l2, grd_bind, cnd_bind, bnd_bind, non_bind, ← gq125.j1_nat, ih]
def gq125.F {R : Type} (kk : Int → List (El kFile) → Option R) (d_Room : Int) (d_Files : List (El kFile)) (f_Name : ByteArray) (f_Data : ByteArray) (f_Sure : Int) : Option R :=
 gq125.l2 (fun put f f1 f2 i out l =>
  cond (!put) (
   grd (gRm (((List.length l) + (List.length [(f, (f1, f2))])) * 40)) <|
   kk out (l ++ [(f, (f1, f2))])) (kk out l)) fuel false (0 : Int) d_Room d_Files f_Name f_Data f_Sure (0 : Int) d_Room ([] : List (El kFile))
theorem gq125.F_nat {R S : Type} (g : R → Option S) (kk : Int → List (El kFile) → Option R) (d_Room d_Files f_Name f_Data f_Sure) : gq125.F (fun y0 y1 => (kk y0 y1).bind g) d_Room d_Files f_Name f_Data f_Sure = (gq125.F kk d_Room d_Files f_Name f_Data f_Sure).bind g := by
 simp only [gq125.F, grd_bind, cnd_bind, bnd_bind, non_bind, ← gq125.l2_nat]
def gq125 (d_Room : Int) (d_Files : List (El kFile)) (f_Name : ByteArray) (f_Data : ByteArray) (f_Sure : Int) : Option (Int × List (El kFile)) := gq125.F (fun y0 y1 => some (y0, y1)) d_Room d_Files f_Name f_Data f_Sure
def gq125.out : (Int × List (El kFile)) → CRes := fun a => ⟨encL SV.enc [.agg [.int .i64, .own [] kFile true]] ((a.1, a.2, ()), ()), [encL SC.enc [] (), encL SC.enc [] ()]⟩
def gq125.ps : List PS := [.val [none, some (kFile, false)], .val [none, none, none]]
def gq125.sA : List SA := [.v (.agg [.int .i64, .slv [] kFile]), .v (.agg [.str, .str, .int .i64])]
def gq125.fi : FI := FIs gq125.sA (Int × List (El kFile)) (fun t => gq125 t.1.1 t.1.2.1 t.2.1.1 t.2.1.2.1 t.2.1.2.2.1) gq125.out gq125.ps
def gq125.E : Env := ⟨tt, lkF [], 66, 0, [], []⟩
def gq125.sh1 : SK := ⟨[.v (.one (.bptr 0 0)), .v (.one (.bptr 1 0)), .v (.one (.bptr 2 0)), .v (.one (.bptr 3 0)), .v (.one (.bool)), .v (.one (.int .i64))], [.box [.int .i64, .slv [1] kFile], .box [.str, .str, .int .i64], .box [.int .i64, .nil], .box [.int .i64, .slo 4], .arr kFile [] true]⟩
def gq125.sh1n : SK := ⟨[.v (.one (.bptr 0 0)), .v (.one (.bptr 1 0)), .v (.one (.bptr 2 0)), .v (.one (.bptr 3 0)), .v (.one (.bool)), .v (.one (.int .i64))], [.box [.int .i64, .slv [1] kFile], .box [.str, .str, .int .i64], .box [.int .i64, .nil], .box [.int .i64, .slo 4], .arr kFile [] true]⟩
def gq125.ko1 : Ex → List CastAt × List Nat
 | .nrm => ([], [2, 3, 4, 5, 6, 7])
 | .ret => ([], [])
 | .ext i => ([], [])
def gq125.G1 (R : Type) (t : gq125.sh1.T) (K : Ex → Kp → Option R) : Option R := gq125.j1 (fun y0 y1 y2 y3 y4 y5 y6 y7 y8 y9 => K .nrm (SK.enc gq125.sh1n (((), (), (), (), y0, y1, ()), ((y2, y3, ()), (y4, y5, y6, ()), (y7, (), ()), (y8, (), ()), y9, ())))) t.1.2.2.2.2.1 t.1.2.2.2.2.2.1 t.2.1.1 t.2.1.2.1 t.2.2.1.1 t.2.2.1.2.1 t.2.2.1.2.2.1 t.2.2.2.1.1 t.2.2.2.2.1.1 t.2.2.2.2.2.1
def gq125.S1 : Sum := ⟨([], [2, 3, 4, 5, 6, 7]), sumF gq125.sh1 (gq125.G1), gq125.ko1⟩
theorem gq125.ok1 (hE : EOk Tryz.prog (gq125.E)) : SumOk Tryz.prog gq125.E (cL (cB (cL (cR (cB (cB (cR (cL (cR (cR (cR (bodyOf Tryz.f125)))))))))))) (gq125.S1) := by
 have hh : HintOk Tryz.prog gq125.E (cL (cB (cL (cR (cB (cB (cR (cL (cR (cR (cR (bodyOf Tryz.f125)))))))))))) (.a) := HintOk.n1 (Q := True) (by kernel_rfl) trivial
 exact sumS (kin := ([], [2, 3, 4, 5, 6, 7])) (kout := gq125.ko1) (sh := gq125.sh1) (F := gq125.G1) (ops_ok (hE.gv _)) (by kernel_rfl) hh (fun R t K => by kernel_rfl)
def gq125.sh2 : SK := ⟨[.v (.one (.bptr 0 0)), .v (.one (.bptr 1 0)), .v (.one (.bptr 2 0)), .v (.one (.bptr 3 0)), .v (.one (.bool)), .v (.one (.int .i64))], [.box [.int .i64, .slv [1] kFile], .box [.str, .str, .int .i64], .box [.int .i64, .nil], .box [.int .i64, .slo 4], .arr kFile [] true]⟩
def gq125.sh2e0 : SK := ⟨[.v (.one (.bptr 0 0)), .v (.one (.bptr 1 0)), .v (.one (.bptr 2 0)), .v (.one (.bool))], [.box [.str, .str, .int .i64], .box [.int .i64, .nil], .box [.int .i64, .slo 3], .arr kFile [] true]⟩
def gq125.ko2 : Ex → List CastAt × List Nat
 | .nrm => ([], [])
 | .ret => ([], [])
 | .ext i => cond (Nat.beq i 0) ([], [3, 4, 5, 6]) ([], [])
def gq125.G2 (n : Nat) (R : Type) (t : gq125.sh2.T) (K : Ex → Kp → Option R) : Option R := gq125.l2 (fun y0 y1 y2 y3 y4 y5 y6 => K (.ext 0) (SK.enc gq125.sh2e0 (((), (), (), y0, ()), ((y1, y2, y3, ()), (y4, (), ()), (y5, (), ()), y6, ())))) n t.1.2.2.2.2.1 t.1.2.2.2.2.2.1 t.2.1.1 t.2.1.2.1 t.2.2.1.1 t.2.2.1.2.1 t.2.2.1.2.2.1 t.2.2.2.1.1 t.2.2.2.2.1.1 t.2.2.2.2.2.1
def gq125.S2 : Sum := ⟨([], [2, 3, 4, 5, 6, 7]), sumF gq125.sh2 (gq125.G2 fuel), gq125.ko2⟩
theorem gq125.ok2 (hE : EOk Tryz.prog (gq125.E)) : SumOk Tryz.prog gq125.E (cB (cR (cL (cR (cR (cR (bodyOf Tryz.f125))))))) (gq125.S2) := by
 have hh : HintOk Tryz.prog gq125.E (cB (cB (cR (cL (cR (cR (cR (bodyOf Tryz.f125)))))))) (.n (.a) (.n (.b (.n (.s (gq125.S1)) (.a))) (.a))) := HintOk.n1 (Q := (True) ∧ (((SumOk Tryz.prog gq125.E (cL (cB (cL (cR (cB (cB (cR (cL (cR (cR (cR (bodyOf Tryz.f125)))))))))))) (gq125.S1)) ∧ (True)) ∧ (True))) (by kernel_rfl) ⟨trivial, ⟨⟨(gq125.ok1 hE), trivial⟩, trivial⟩⟩
 have h := loopS (kin := ([], [2, 3, 4, 5, 6, 7])) (kout := gq125.ko2) (sh := gq125.sh2) (F := gq125.G2) (ops_ok (hE.gv _)) (by kernel_rfl) hh (fun _ _ _ => rfl) (fun n R t K => by kernel_rfl) fuel
 exact HintOk.n1 (c := (cB (cR (cL (cR (cR (cR (bodyOf Tryz.f125)))))))) (h := .s (gq125.S2)) (P := Tryz.prog) (E := gq125.E) (by kernel_rfl) h
theorem gq125.hok (hE : EOk Tryz.prog (gq125.E)) : HintOk Tryz.prog gq125.E (bodyOf Tryz.f125) (.n (.a) (.n (.a) (.n (.a) (.n (.n (.a) (.b (.s (gq125.S2)))) (.a))))) := HintOk.n1 (Q := (True) ∧ ((True) ∧ ((True) ∧ (((True) ∧ (SumOk Tryz.prog gq125.E (cB (cR (cL (cR (cR (cR (bodyOf Tryz.f125))))))) (gq125.S2))) ∧ (True))))) (by kernel_rfl) ⟨trivial, ⟨trivial, ⟨trivial, ⟨⟨trivial, (gq125.ok2 hE)⟩, trivial⟩⟩⟩⟩
theorem gq125.hE : EOk Tryz.prog (gq125.E) := EOk.of ttOk (trivial)
theorem gq125.fok : FOk Tryz.prog 125 gq125.fi :=
 fokS (E := gq125.E) (wy := ⟨[[none, some (kFile, true)]], [[], []], []⟩) (h := (fun gs => .n (.a) (.n (.a) (.n (.a) (.n (.n (.a) (.b (.s (gq125.S2)))) (.a)))))) (G := fun t g => gq125.F (fun y0 y1 => g (y0, y1)) t.1.1 t.1.2.1 t.2.1.1 t.2.1.2.1 t.2.1.2.2.1) (by kernel_rfl) gq125.hE Tryz.func125 (by kernel_rfl) rfl (Nat.le_refl _) (fun t => HintOk.n1 (by kernel_rfl) (gq125.hok gq125.hE)) (fun t g => gq125.F_nat g (fun y0 y1 => some (y0, y1)) _ _ _ _ _) (fun t => by kernel_rfl)
def gq122.j1 {R : Type} (kkn : Int → Bool → Int → List (El kFile) → Int → Int → ByteArray → ByteArray → ByteArray → List Int → Int → Option R) (k_ : Int) (d : Int) (d1 : List (El kFile)) (a : Int) (a1 : Int) (a2 : ByteArray) (a3 : ByteArray) (a4 : ByteArray) (a5 : List Int) (i : Int) : Option R :=
 cond (decide (k_ < (0 : Int))) (kkn k_ ((List.length d1 : Int) == (8 : Int)) d d1 a a1 a2 a3 a4 a5 i) (kkn k_ false d d1 a a1 a2 a3 a4 a5 i)
theorem gq122.j1_nat {R S : Type} (g : R → Option S) (kkn : Int → Bool → Int → List (El kFile) → Int → Int → ByteArray → ByteArray → ByteArray → List Int → Int → Option R) (k_ d d1 a a1 a2 a3 a4 a5 i) : gq122.j1 (fun y0 y1 y2 y3 y4 y5 y6 y7 y8 y9 y10 => (kkn y0 y1 y2 y3 y4 y5 y6 y7 y8 y9 y10).bind g) k_ d d1 a a1 a2 a3 a4 a5 i = (gq122.j1 kkn k_ d d1 a a1 a2 a3 a4 a5 i).bind g := by
 simp only [gq122.j1, grd_bind, cnd_bind, bnd_bind, non_bind]
def gq122.j2 {R : Type} (kkn : Int → List (El kFile) → Int → Int → ByteArray → ByteArray → ByteArray → List Int → Int → ByteArray → ByteArray → Int → Option R) (k_ : Int) (d : Int) (d1 : List (El kFile)) (a : Int) (a1 : Int) (a2 : ByteArray) (a3 : ByteArray) (a4 : ByteArray) (a5 : List Int) (i : Int) (f : ByteArray) (f1 : ByteArray) (f2 : Int) : Option R :=
 cond (decide (k_ ≥ (0 : Int))) (
  grd (gIx k_ (List.length d1)) <|
  kkn d d1 a a1 a2 a3 a4 a5 i (rdE kFile d1 (Int.toNat k_)).1 (rdE kFile d1 (Int.toNat k_)).2.1 (rdE kFile d1 (Int.toNat k_)).2.2) (kkn d d1 a a1 a2 a3 a4 a5 i f f1 f2)
theorem gq122.j2_nat {R S : Type} (g : R → Option S) (kkn : Int → List (El kFile) → Int → Int → ByteArray → ByteArray → ByteArray → List Int → Int → ByteArray → ByteArray → Int → Option R) (k_ d d1 a a1 a2 a3 a4 a5 i f f1 f2) : gq122.j2 (fun y0 y1 y2 y3 y4 y5 y6 y7 y8 y9 y10 y11 => (kkn y0 y1 y2 y3 y4 y5 y6 y7 y8 y9 y10 y11).bind g) k_ d d1 a a1 a2 a3 a4 a5 i f f1 f2 = (gq122.j2 kkn k_ d d1 a a1 a2 a3 a4 a5 i f f1 f2).bind g := by
 simp only [gq122.j2, grd_bind, cnd_bind, bnd_bind, non_bind]
def gq122.F {R : Type} (kk : Int → List (El kFile) → Int → Option R) (d_Room : Int) (d_Files : List (El kFile)) (a_Kind : Int) (a_N : Int) (a_Name : ByteArray) (a_To : ByteArray) (a_Data : ByteArray) (a_Keep : List Int) : Option R :=
 (gq124 d_Room d_Files a_Name).bind fun r =>
 (gq120 a_Name).bind fun r1 =>
 cond (!r1) (kk d_Room d_Files (1 : Int)) (
  gq122.j1 (fun k_ b d d1 a a1 a2 a3 a4 a5 i =>
   cond (b) (kk d d1 (7 : Int)) (
    (gq121 d d1).bind fun r2 =>
    cond (decide ((IntKind.wrap .i64 (r2 + (ByteArray.size a4 : Int))) > d)) (kk d d1 (7 : Int)) (
     gq122.j2 (fun d2 d3 a6 a7 a8 a9 a10 a11 i1 f f1 f2 =>
      grd (gCat f1 a10) <|
      (gq125 d2 d3 f (f1 ++ a10) f2).bind fun r3 =>
      kk r3.1 r3.2 (0 : Int)) k_ d d1 a a1 a2 a3 a4 a5 i a2 ByteArray.empty (0 : Int)))) r d_Room d_Files a_Kind a_N a_Name a_To a_Data a_Keep (0 : Int))
theorem gq122.F_nat {R S : Type} (g : R → Option S) (kk : Int → List (El kFile) → Int → Option R) (d_Room d_Files a_Kind a_N a_Name a_To a_Data a_Keep) : gq122.F (fun y0 y1 y2 => (kk y0 y1 y2).bind g) d_Room d_Files a_Kind a_N a_Name a_To a_Data a_Keep = (gq122.F kk d_Room d_Files a_Kind a_N a_Name a_To a_Data a_Keep).bind g := by
 simp only [gq122.F, grd_bind, cnd_bind, bnd_bind, non_bind, ← gq122.j1_nat, ← gq122.j2_nat]
def gq122 (d_Room : Int) (d_Files : List (El kFile)) (a_Kind : Int) (a_N : Int) (a_Name : ByteArray) (a_To : ByteArray) (a_Data : ByteArray) (a_Keep : List Int) : Option (Int × List (El kFile) × Int) := gq122.F (fun y0 y1 y2 => some (y0, y1, y2)) d_Room d_Files a_Kind a_N a_Name a_To a_Data a_Keep
def gq122.out : (Int × List (El kFile) × Int) → CRes := fun a => ⟨encL SV.enc [.agg [.int .i64, .slv [0, 1] kFile], .one (.int .i64)] ((a.1, a.2.1, ()), a.2.2, ()), [encL SC.enc [] (), encL SC.enc [] ()]⟩
def gq122.ps : List PS := [.val [none, some (kFile, false)], .val [none, none, none, none, none, some ((.int .i64), false)]]
def gq122.sA : List SA := [.v (.agg [.int .i64, .slv [] kFile]), .v (.agg [.int .i64, .int .i64, .str, .str, .str, .slv [] (.int .i64)])]
def gq122.fi : FI := FIs gq122.sA (Int × List (El kFile) × Int) (fun t => gq122 t.1.1 t.1.2.1 t.2.1.1 t.2.1.2.1 t.2.1.2.2.1 t.2.1.2.2.2.1 t.2.1.2.2.2.2.1 t.2.1.2.2.2.2.2.1) gq122.out gq122.ps
def gq122.E : Env := ⟨tt, lkF [(120, gq120.fi), (121, gq121.fi), (124, gq124.fi), (125, gq125.fi)], 58, 0, [], []⟩
def gq122.sh1 : SK := ⟨[.v (.one (.bptr 0 0)), .v (.one (.bptr 1 0)), .v (.one (.bptr 2 0)), .v (.one (.int .i64))], [.box [.int .i64, .slv [1] kFile], .box [.int .i64, .int .i64, .str, .str, .str, .slv [2] (.int .i64)], .box [.int .i64, .nil]]⟩
def gq122.sh1n : SK := ⟨[.v (.one (.bptr 0 0)), .v (.one (.bptr 1 0)), .v (.one (.bptr 2 0)), .v (.one (.int .i64)), .v (.one (.bool))], [.box [.int .i64, .slv [1] kFile], .box [.int .i64, .int .i64, .str, .str, .str, .slv [2] (.int .i64)], .box [.int .i64, .nil]]⟩
def gq122.ko1 : Ex → List CastAt × List Nat
 | .nrm => ([], [2, 3, 4, 6, 18])
 | .ret => ([], [])
 | .ext i => ([], [])
def gq122.G1 (R : Type) (t : gq122.sh1.T) (K : Ex → Kp → Option R) : Option R := gq122.j1 (fun y0 y1 y2 y3 y4 y5 y6 y7 y8 y9 y10 => K .nrm (SK.enc gq122.sh1n (((), (), (), y0, y1, ()), ((y2, y3, ()), (y4, y5, y6, y7, y8, y9, ()), (y10, (), ()), ())))) t.1.2.2.2.1 t.2.1.1 t.2.1.2.1 t.2.2.1.1 t.2.2.1.2.1 t.2.2.1.2.2.1 t.2.2.1.2.2.2.1 t.2.2.1.2.2.2.2.1 t.2.2.1.2.2.2.2.2.1 t.2.2.2.1.1
def gq122.S1 : Sum := ⟨([], [2, 3, 4, 6]), sumF gq122.sh1 (gq122.G1), gq122.ko1⟩
theorem gq122.ok1 (hE : EOk Tryz.prog (gq122.E)) : SumOk Tryz.prog gq122.E (cL (cR (cR (cB (cL (cR (cR (bodyOf Tryz.f122)))))))) (gq122.S1) := by
 have hh : HintOk Tryz.prog gq122.E (cL (cR (cR (cB (cL (cR (cR (bodyOf Tryz.f122)))))))) (.a) := HintOk.n1 (Q := True) (by kernel_rfl) trivial
 exact sumS (kin := ([], [2, 3, 4, 6])) (kout := gq122.ko1) (sh := gq122.sh1) (F := gq122.G1) (ops_ok (hE.gv _)) (by kernel_rfl) hh (fun R t K => by kernel_rfl)
def gq122.sh2 : SK := ⟨[.v (.one (.bptr 0 0)), .v (.one (.bptr 1 0)), .v (.one (.bptr 2 0)), .v (.one (.int .i64)), .v (.one (.bptr 3 0))], [.box [.int .i64, .slv [1] kFile], .box [.int .i64, .int .i64, .str, .str, .str, .slv [2] (.int .i64)], .box [.int .i64, .nil], .box [.str, .str, .int .i64]]⟩
def gq122.sh2n : SK := ⟨[.v (.one (.bptr 0 0)), .v (.one (.bptr 1 0)), .v (.one (.bptr 2 0)), .v (.one (.bptr 3 0))], [.box [.int .i64, .slv [1] kFile], .box [.int .i64, .int .i64, .str, .str, .str, .slv [2] (.int .i64)], .box [.int .i64, .nil], .box [.str, .str, .int .i64]]⟩
def gq122.ko2 : Ex → List CastAt × List Nat
 | .nrm => ([], [2, 3, 4, 7])
 | .ret => ([], [])
 | .ext i => ([], [])
def gq122.G2 (R : Type) (t : gq122.sh2.T) (K : Ex → Kp → Option R) : Option R := gq122.j2 (fun y0 y1 y2 y3 y4 y5 y6 y7 y8 y9 y10 y11 => K .nrm (SK.enc gq122.sh2n (((), (), (), (), ()), ((y0, y1, ()), (y2, y3, y4, y5, y6, y7, ()), (y8, (), ()), (y9, y10, y11, ()), ())))) t.1.2.2.2.1 t.2.1.1 t.2.1.2.1 t.2.2.1.1 t.2.2.1.2.1 t.2.2.1.2.2.1 t.2.2.1.2.2.2.1 t.2.2.1.2.2.2.2.1 t.2.2.1.2.2.2.2.2.1 t.2.2.2.1.1 t.2.2.2.2.1.1 t.2.2.2.2.1.2.1 t.2.2.2.2.1.2.2.1
def gq122.S2 : Sum := ⟨([], [2, 3, 4, 6, 7]), sumF gq122.sh2 (gq122.G2), gq122.ko2⟩
theorem gq122.ok2 (hE : EOk Tryz.prog (gq122.E)) : SumOk Tryz.prog gq122.E (cL (cR (cR (cR (cR (bodyOf Tryz.f122)))))) (gq122.S2) := by
 have hh : HintOk Tryz.prog gq122.E (cL (cR (cR (cR (cR (bodyOf Tryz.f122)))))) (.a) := HintOk.n1 (Q := True) (by kernel_rfl) trivial
 exact sumS (kin := ([], [2, 3, 4, 6, 7])) (kout := gq122.ko2) (sh := gq122.sh2) (F := gq122.G2) (ops_ok (hE.gv _)) (by kernel_rfl) hh (fun R t K => by kernel_rfl)
theorem gq122.hok (hE : EOk Tryz.prog (gq122.E)) : HintOk Tryz.prog gq122.E (bodyOf Tryz.f122) (.n (.a) (.n (.a) (.n (.b (.n (.a) (.n (.a) (.n (.s (gq122.S1)) (.a))))) (.n (.a) (.n (.s (gq122.S2)) (.a)))))) := HintOk.n1 (Q := (True) ∧ ((True) ∧ (((True) ∧ ((True) ∧ ((SumOk Tryz.prog gq122.E (cL (cR (cR (cB (cL (cR (cR (bodyOf Tryz.f122)))))))) (gq122.S1)) ∧ (True)))) ∧ ((True) ∧ ((SumOk Tryz.prog gq122.E (cL (cR (cR (cR (cR (bodyOf Tryz.f122)))))) (gq122.S2)) ∧ (True)))))) (by kernel_rfl) ⟨trivial, ⟨trivial, ⟨⟨trivial, ⟨trivial, ⟨(gq122.ok1 hE), trivial⟩⟩⟩, ⟨trivial, ⟨(gq122.ok2 hE), trivial⟩⟩⟩⟩⟩
theorem gq122.hE : EOk Tryz.prog (gq122.E) := EOk.of ttOk (⟨gq120.fok, ⟨gq121.fok, ⟨gq124.fok, ⟨gq125.fok, trivial⟩⟩⟩⟩)
theorem gq122.fok : FOk Tryz.prog 122 gq122.fi :=
 fokS (E := gq122.E) (wy := ⟨[[none, some (kFile, false)], [none]], [[], []], [⟨4, true, 1, .slv [0, 1] kFile⟩]⟩) (h := (fun gs => .n (.a) (.n (.a) (.n (.b (.n (.a) (.n (.a) (.n (.s (gq122.S1)) (.a))))) (.n (.a) (.n (.s (gq122.S2)) (.a))))))) (G := fun t g => gq122.F (fun y0 y1 y2 => g (y0, y1, y2)) t.1.1 t.1.2.1 t.2.1.1 t.2.1.2.1 t.2.1.2.2.1 t.2.1.2.2.2.1 t.2.1.2.2.2.2.1 t.2.1.2.2.2.2.2.1) (by kernel_rfl) gq122.hE Tryz.func122 (by kernel_rfl) rfl (Nat.le_refl _) (fun t => HintOk.n1 (by kernel_rfl) (gq122.hok gq122.hE)) (fun t g => gq122.F_nat g (fun y0 y1 y2 => some (y0, y1, y2)) _ _ _ _ _ _ _ _) (fun t => by kernel_rfl)
def gq123.j1 {R : Type} (kkn : List Int → Int → Nat → Int → Int → Int → List (El kFile) → Option R) (keep : List Int) (i : Int) (f : Nat) (n_ : Int) (i1 : Int) (out : Int) (f1 : List (El kFile)) : Option R :=
 cond (decide (i < (List.length keep : Int))) (
  grd (gIx i (List.length keep)) <|
  kkn keep i f (mx2 (rdE kFile f1 f).2.2 (mn2 (ByteArray.size (rdE kFile f1 f).2.1 : Int) (IntKind.wrap .i64 ((rdE kFile f1 f).2.2 + (mn2 (3000 : Int) (rdE (.int .i64 : Kd) keep (Int.toNat i))))))) i1 out f1) (kkn keep i f n_ i1 out f1)
theorem gq123.j1_nat {R S : Type} (g : R → Option S) (kkn : List Int → Int → Nat → Int → Int → Int → List (El kFile) → Option R) (keep i f n_ i1 out f1) : gq123.j1 (fun y0 y1 y2 y3 y4 y5 y6 => (kkn y0 y1 y2 y3 y4 y5 y6).bind g) keep i f n_ i1 out f1 = (gq123.j1 kkn keep i f n_ i1 out f1).bind g := by
 simp only [gq123.j1, grd_bind, cnd_bind, bnd_bind, non_bind]
def gq123.l2 {R : Type} (kke0 : Int → Int → List (El kFile) → Option R) : Nat → List Int → Int → Int → Int → List (El kFile) → Option R
 | 0, _, _, _, _, _ => none
 | n + 1, keep, i, i1, out, l =>
  cond (decide (i < (List.length l : Int))) (
   grd (gIx i (List.length l)) <|
   gq123.j1 (fun keep1 i2 f n_ i3 out1 f1 =>
    grd (gSl (0 : Int) n_ (ByteArray.size (rdE kFile f1 f).2.1)) <|
    gq123.l2 kke0 n keep1 (IntKind.wrap .i64 (i2 + (1 : Int))) i3 out1 (setE kFile (setE kFile f1 f ((rdE kFile f1 f).1, (cut (rdE kFile f1 f).2.1 (0 : Int) n_, (rdE kFile f1 f).2.2))) f ((rdE kFile (setE kFile f1 f ((rdE kFile f1 f).1, (cut (rdE kFile f1 f).2.1 (0 : Int) n_, (rdE kFile f1 f).2.2))) f).1, ((rdE kFile (setE kFile f1 f ((rdE kFile f1 f).1, (cut (rdE kFile f1 f).2.1 (0 : Int) n_, (rdE kFile f1 f).2.2))) f).2.1, n_)))) keep i (Int.toNat i) (rdE kFile l (Int.toNat i)).2.2 i1 out l) (kke0 i1 out l)
theorem gq123.l2_nat {R S : Type} (g : R → Option S) (kke0 : Int → Int → List (El kFile) → Option R) : ∀ n keep i i1 out l, gq123.l2 (fun y0 y1 y2 => (kke0 y0 y1 y2).bind g) n keep i i1 out l = (gq123.l2 kke0 n keep i i1 out l).bind g := by
 intro n
 induction n with
 | zero => intros; rfl
 | succ n ih => intros; simp only [gq123.l2, grd_bind, cnd_bind, bnd_bind, non_bind, ← gq123.j1_nat, ih]
def gq123.F {R : Type} (kk : Int → List (El kFile) → Option R) (d_Room : Int) (d_Files : List (El kFile)) (keep : List Int) : Option R :=
 (gq50 d_Room d_Files).bind fun r =>
 gq123.l2 (fun i out l => kk out l) fuel keep (0 : Int) (0 : Int) r.1 r.2
theorem gq123.F_nat {R S : Type} (g : R → Option S) (kk : Int → List (El kFile) → Option R) (d_Room d_Files keep) : gq123.F (fun y0 y1 => (kk y0 y1).bind g) d_Room d_Files keep = (gq123.F kk d_Room d_Files keep).bind g := by
 simp only [gq123.F, grd_bind, cnd_bind, bnd_bind, non_bind, ← gq123.l2_nat]
def gq123 (d_Room : Int) (d_Files : List (El kFile)) (keep : List Int) : Option (Int × List (El kFile)) := gq123.F (fun y0 y1 => some (y0, y1)) d_Room d_Files keep
def gq123.out : (Int × List (El kFile)) → CRes := fun a => ⟨encL SV.enc [.agg [.int .i64, .own [] kFile true]] ((a.1, a.2, ()), ()), [encL SC.enc [] (), encL SC.enc [] ()]⟩
def gq123.ps : List PS := [.val [none, some (kFile, false)], .val [some ((.int .i64), false)]]
def gq123.sA : List SA := [.v (.agg [.int .i64, .slv [] kFile]), .v (.one (.slv [] (.int .i64)))]
def gq123.fi : FI := FIs gq123.sA (Int × List (El kFile)) (fun t => gq123 t.1.1 t.1.2.1 t.2.1) gq123.out gq123.ps
def gq123.E : Env := ⟨tt, lkF [(50, gq50.fi)], 65, 0, [], []⟩
def gq123.sh1 : SK := ⟨[.v (.one (.slv [2] (.int .i64))), .v (.one (.bptr 0 0)), .v (.one (.bptr 1 0)), .v (.one (.int .i64)), .v (.one (.eptr 2 3 0)), .v (.one (.int .i64))], [.box [.int .i64, .nil], .box [.int .i64, .slo 2], .arr kFile [] true]⟩
def gq123.sh1n : SK := ⟨[.v (.one (.slv [2] (.int .i64))), .v (.one (.bptr 0 0)), .v (.one (.bptr 1 0)), .v (.one (.int .i64)), .v (.one (.eptr 2 3 0)), .v (.one (.int .i64))], [.box [.int .i64, .nil], .box [.int .i64, .slo 2], .arr kFile [] true]⟩
def gq123.ko1 : Ex → List CastAt × List Nat
 | .nrm => ([], [1, 4, 5, 6, 7, 8])
 | .ret => ([], [])
 | .ext i => ([], [])
def gq123.G1 (R : Type) (t : gq123.sh1.T) (K : Ex → Kp → Option R) : Option R := gq123.j1 (fun y0 y1 y2 y3 y4 y5 y6 => K .nrm (SK.enc gq123.sh1n ((y0, (), (), y1, y2, y3, ()), ((y4, (), ()), (y5, (), ()), y6, ())))) t.1.1 t.1.2.2.2.1 t.1.2.2.2.2.1 t.1.2.2.2.2.2.1 t.2.1.1 t.2.2.1.1 t.2.2.2.1
def gq123.S1 : Sum := ⟨([], [1, 4, 5, 6, 7, 8]), sumF gq123.sh1 (gq123.G1), gq123.ko1⟩
theorem gq123.ok1 (hE : EOk Tryz.prog (gq123.E)) : SumOk Tryz.prog gq123.E (cL (cR (cR (cB (cL (cR (cB (cB (cR (cL (cR (cR (bodyOf Tryz.f123))))))))))))) (gq123.S1) := by
 have hh : HintOk Tryz.prog gq123.E (cL (cR (cR (cB (cL (cR (cB (cB (cR (cL (cR (cR (bodyOf Tryz.f123))))))))))))) (.a) := HintOk.n1 (Q := True) (by kernel_rfl) trivial
 exact sumS (kin := ([], [1, 4, 5, 6, 7, 8])) (kout := gq123.ko1) (sh := gq123.sh1) (F := gq123.G1) (ops_ok (hE.gv _)) (by kernel_rfl) hh (fun R t K => by kernel_rfl)
def gq123.sh2 : SK := ⟨[.v (.one (.slv [2] (.int .i64))), .v (.one (.bptr 0 0)), .v (.one (.bptr 1 0)), .v (.one (.int .i64))], [.box [.int .i64, .nil], .box [.int .i64, .slo 2], .arr kFile [] true]⟩
def gq123.sh2e0 : SK := ⟨[.v (.one (.bptr 0 0)), .v (.one (.bptr 1 0))], [.box [.int .i64, .nil], .box [.int .i64, .slo 2], .arr kFile [] true]⟩
def gq123.ko2 : Ex → List CastAt × List Nat
 | .nrm => ([], [])
 | .ret => ([], [])
 | .ext i => cond (Nat.beq i 0) ([], [4, 5]) ([], [])
def gq123.G2 (n : Nat) (R : Type) (t : gq123.sh2.T) (K : Ex → Kp → Option R) : Option R := gq123.l2 (fun y0 y1 y2 => K (.ext 0) (SK.enc gq123.sh2e0 (((), (), ()), ((y0, (), ()), (y1, (), ()), y2, ())))) n t.1.1 t.1.2.2.2.1 t.2.1.1 t.2.2.1.1 t.2.2.2.1
def gq123.S2 : Sum := ⟨([], [1, 4, 5, 6]), sumF gq123.sh2 (gq123.G2 fuel), gq123.ko2⟩
theorem gq123.ok2 (hE : EOk Tryz.prog (gq123.E)) : SumOk Tryz.prog gq123.E (cB (cR (cL (cR (cR (bodyOf Tryz.f123)))))) (gq123.S2) := by
 have hh : HintOk Tryz.prog gq123.E (cB (cB (cR (cL (cR (cR (bodyOf Tryz.f123))))))) (.n (.a) (.n (.b (.n (.a) (.n (.a) (.n (.s (gq123.S1)) (.a))))) (.a))) := HintOk.n1 (Q := (True) ∧ (((True) ∧ ((True) ∧ ((SumOk Tryz.prog gq123.E (cL (cR (cR (cB (cL (cR (cB (cB (cR (cL (cR (cR (bodyOf Tryz.f123))))))))))))) (gq123.S1)) ∧ (True)))) ∧ (True))) (by kernel_rfl) ⟨trivial, ⟨⟨trivial, ⟨trivial, ⟨(gq123.ok1 hE), trivial⟩⟩⟩, trivial⟩⟩
 have h := loopS (kin := ([], [1, 4, 5, 6])) (kout := gq123.ko2) (sh := gq123.sh2) (F := gq123.G2) (ops_ok (hE.gv _)) (by kernel_rfl) hh (fun _ _ _ => rfl) (fun n R t K => by kernel_rfl) fuel
 exact HintOk.n1 (c := (cB (cR (cL (cR (cR (bodyOf Tryz.f123))))))) (h := .s (gq123.S2)) (P := Tryz.prog) (E := gq123.E) (by kernel_rfl) h
theorem gq123.hok (hE : EOk Tryz.prog (gq123.E)) : HintOk Tryz.prog gq123.E (bodyOf Tryz.f123) (.n (.a) (.n (.a) (.n (.n (.a) (.b (.s (gq123.S2)))) (.a)))) := HintOk.n1 (Q := (True) ∧ ((True) ∧ (((True) ∧ (SumOk Tryz.prog gq123.E (cB (cR (cL (cR (cR (bodyOf Tryz.f123)))))) (gq123.S2))) ∧ (True)))) (by kernel_rfl) ⟨trivial, ⟨trivial, ⟨⟨trivial, (gq123.ok2 hE)⟩, trivial⟩⟩⟩
theorem gq123.hE : EOk Tryz.prog (gq123.E) := EOk.of ttOk (⟨gq50.fok, trivial⟩)
theorem gq123.fok : FOk Tryz.prog 123 gq123.fi :=
 fokS (E := gq123.E) (wy := ⟨[[none, some (kFile, true)]], [[], []], []⟩) (h := (fun gs => .n (.a) (.n (.a) (.n (.n (.a) (.b (.s (gq123.S2)))) (.a))))) (G := fun t g => gq123.F (fun y0 y1 => g (y0, y1)) t.1.1 t.1.2.1 t.2.1) (by kernel_rfl) gq123.hE Tryz.func123 (by kernel_rfl) rfl (Nat.le_refl _) (fun t => HintOk.n1 (by kernel_rfl) (gq123.hok gq123.hE)) (fun t g => gq123.F_nat g (fun y0 y1 => some (y0, y1)) _ _ _) (fun t => by kernel_rfl)
def gq126.F {R : Type} (kk : Int → List (El kFile) → Option R) (d_Room : Int) (d_Files : List (El kFile)) (k_ : Int) : Option R :=
 grd (gSl (0 : Int) k_ (List.length d_Files)) <|
 grd (gRm (((List.length ([] : List (El kFile))) + (List.length (sub d_Files (0 : Int) k_))) * 40)) <|
 grd (gSl (IntKind.wrap .i64 (k_ + (1 : Int))) (List.length d_Files : Int) (List.length d_Files)) <|
 grd (gRm (((List.length (([] : List (El kFile)) ++ (sub d_Files (0 : Int) k_))) + (List.length (sub d_Files (IntKind.wrap .i64 (k_ + (1 : Int))) (List.length d_Files : Int)))) * 40)) <|
 kk d_Room ((([] : List (El kFile)) ++ (sub d_Files (0 : Int) k_)) ++ (sub d_Files (IntKind.wrap .i64 (k_ + (1 : Int))) (List.length d_Files : Int)))
theorem gq126.F_nat {R S : Type} (g : R → Option S) (kk : Int → List (El kFile) → Option R) (d_Room d_Files k_) : gq126.F (fun y0 y1 => (kk y0 y1).bind g) d_Room d_Files k_ = (gq126.F kk d_Room d_Files k_).bind g := by
 simp only [gq126.F, grd_bind, cnd_bind, bnd_bind, non_bind]
def gq126 (d_Room : Int) (d_Files : List (El kFile)) (k_ : Int) : Option (Int × List (El kFile)) := gq126.F (fun y0 y1 => some (y0, y1)) d_Room d_Files k_
def gq126.out : (Int × List (El kFile)) → CRes := fun a => ⟨encL SV.enc [.agg [.int .i64, .own [] kFile true]] ((a.1, a.2, ()), ()), [encL SC.enc [] (), encL SC.enc [] ()]⟩
def gq126.ps : List PS := [.val [none, some (kFile, false)], .val [none]]
def gq126.sA : List SA := [.v (.agg [.int .i64, .slv [] kFile]), .v (.one (.int .i64))]
def gq126.fi : FI := FIs gq126.sA (Int × List (El kFile)) (fun t => gq126 t.1.1 t.1.2.1 t.2.1) gq126.out gq126.ps
def gq126.E : Env := ⟨tt, lkF [], 20, 0, [], []⟩
theorem gq126.hok (hE : EOk Tryz.prog (gq126.E)) : HintOk Tryz.prog gq126.E (bodyOf Tryz.f126) (.a) := HintOk.n1 (Q := True) (by kernel_rfl) trivial
theorem gq126.hE : EOk Tryz.prog (gq126.E) := EOk.of ttOk (trivial)
theorem gq126.fok : FOk Tryz.prog 126 gq126.fi :=
 fokS (E := gq126.E) (wy := ⟨[[none, some (kFile, true)]], [[], []], []⟩) (h := (fun gs => .a)) (G := fun t g => gq126.F (fun y0 y1 => g (y0, y1)) t.1.1 t.1.2.1 t.2.1) (by kernel_rfl) gq126.hE Tryz.func126 (by kernel_rfl) rfl (Nat.le_refl _) (fun t => HintOk.n1 (by kernel_rfl) (gq126.hok gq126.hE)) (fun t g => gq126.F_nat g (fun y0 y1 => some (y0, y1)) _ _ _) (fun t => by kernel_rfl)
def gq74.j1 {R : Type} (kkn : Int → List (El kFile) → Int → Int → ByteArray → ByteArray → ByteArray → List Int → Int → Option R) (kkr : Int → Int → List (El kFile) → Option R) (d : Int) (d1 : List (El kFile)) (a : Int) (a1 : Int) (a2 : ByteArray) (a3 : ByteArray) (a4 : ByteArray) (a5 : List Int) (i : Int) : Option R :=
 cond (a == (1 : Int)) (
  (gq122 d d1 a a1 a2 a3 a4 a5).bind fun r =>
  kkr r.2.2 r.1 r.2.1) (
  cond (a == (5 : Int)) (
   (gq123 d d1 a5).bind fun r1 =>
   kkr (0 : Int) r1.1 r1.2) (
   cond (a == (2 : Int)) (kkn d d1 a a1 a2 a3 a4 a5 i) (
    cond (a == (3 : Int)) (kkn d d1 a a1 a2 a3 a4 a5 i) (
     cond (a == (4 : Int)) (kkn d d1 a a1 a2 a3 a4 a5 i) (cond (a == (6 : Int)) (kkn d d1 a a1 a2 a3 a4 a5 i) (kkr (3 : Int) d d1))))))
theorem gq74.j1_nat {R S : Type} (g : R → Option S) (kkn : Int → List (El kFile) → Int → Int → ByteArray → ByteArray → ByteArray → List Int → Int → Option R) (kkr : Int → Int → List (El kFile) → Option R) (d d1 a a1 a2 a3 a4 a5 i) : gq74.j1 (fun y0 y1 y2 y3 y4 y5 y6 y7 y8 => (kkn y0 y1 y2 y3 y4 y5 y6 y7 y8).bind g) (fun y0 y1 y2 => (kkr y0 y1 y2).bind g) d d1 a a1 a2 a3 a4 a5 i = (gq74.j1 kkn kkr d d1 a a1 a2 a3 a4 a5 i).bind g := by
 simp only [gq74.j1, grd_bind, cnd_bind, bnd_bind, non_bind]
def gq74.F {R : Type} (kk : Int → List (El kFile) → Int → Option R) (d_Room : Int) (d_Files : List (El kFile)) (a_Kind : Int) (a_N : Int) (a_Name : ByteArray) (a_To : ByteArray) (a_Data : ByteArray) (a_Keep : List Int) : Option R :=
 gq74.j1 (fun d d1 a a1 a2 a3 a4 a5 i =>
  (gq124 d d1 a2).bind fun r =>
  cond (decide (r < (0 : Int))) (kk d d1 (5 : Int)) (
   grd (gIx r (List.length d1)) <|
   cond (a == (2 : Int)) (
    (gq125 d d1 ((rdE kFile d1 (Int.toNat r)).1) ((rdE kFile d1 (Int.toNat r)).2.1) (ByteArray.size (rdE kFile d1 (Int.toNat r)).2.1 : Int)).bind fun r1 =>
    kk r1.1 r1.2 (0 : Int)) (
    cond (a == (4 : Int)) (
     (gq126 d d1 r).bind fun r2 =>
     kk r2.1 r2.2 (0 : Int)) (
     cond (a == (6 : Int)) (
      (gq59 a1 (0 : Int) (ByteArray.size (rdE kFile d1 (Int.toNat r)).2.1 : Int)).bind fun r3 =>
      cond (!r3) (kk d d1 (4 : Int)) (
       grd (gSl (0 : Int) a1 (ByteArray.size (rdE kFile d1 (Int.toNat r)).2.1)) <|
       (gq125 d d1 ((rdE kFile d1 (Int.toNat r)).1) (cut (rdE kFile d1 (Int.toNat r)).2.1 (0 : Int) a1) (mn2 (rdE kFile d1 (Int.toNat r)).2.2 a1)).bind fun r4 =>
       kk r4.1 r4.2 (0 : Int))) (
      (gq120 a3).bind fun r5 =>
      cond (!r5) (kk d d1 (1 : Int)) (
       (gq126 d d1 r).bind fun r6 =>
       (gq125 r6.1 r6.2 a3 ((rdE kFile d1 (Int.toNat r)).2.1) ((rdE kFile d1 (Int.toNat r)).2.2)).bind fun r7 =>
       kk r7.1 r7.2 (0 : Int))))))) (fun i1 i2 l => kk i2 l i1) d_Room d_Files a_Kind a_N a_Name a_To a_Data a_Keep (0 : Int)
theorem gq74.F_nat {R S : Type} (g : R → Option S) (kk : Int → List (El kFile) → Int → Option R) (d_Room d_Files a_Kind a_N a_Name a_To a_Data a_Keep) : gq74.F (fun y0 y1 y2 => (kk y0 y1 y2).bind g) d_Room d_Files a_Kind a_N a_Name a_To a_Data a_Keep = (gq74.F kk d_Room d_Files a_Kind a_N a_Name a_To a_Data a_Keep).bind g := by
 simp only [gq74.F, grd_bind, cnd_bind, bnd_bind, non_bind, ← gq74.j1_nat]
def gq74 (d_Room : Int) (d_Files : List (El kFile)) (a_Kind : Int) (a_N : Int) (a_Name : ByteArray) (a_To : ByteArray) (a_Data : ByteArray) (a_Keep : List Int) : Option (Int × List (El kFile) × Int) := gq74.F (fun y0 y1 y2 => some (y0, y1, y2)) d_Room d_Files a_Kind a_N a_Name a_To a_Data a_Keep
def gq74.out : (Int × List (El kFile) × Int) → CRes := fun a => ⟨encL SV.enc [.agg [.int .i64, .slv [0, 1] kFile], .one (.int .i64)] ((a.1, a.2.1, ()), a.2.2, ()), [encL SC.enc [] (), encL SC.enc [] ()]⟩
def gq74.ps : List PS := [.val [none, some (kFile, false)], .val [none, none, none, none, none, some ((.int .i64), false)]]
def gq74.sA : List SA := [.v (.agg [.int .i64, .slv [] kFile]), .v (.agg [.int .i64, .int .i64, .str, .str, .str, .slv [] (.int .i64)])]
def gq74.fi : FI := FIs gq74.sA (Int × List (El kFile) × Int) (fun t => gq74 t.1.1 t.1.2.1 t.2.1.1 t.2.1.2.1 t.2.1.2.2.1 t.2.1.2.2.2.1 t.2.1.2.2.2.2.1 t.2.1.2.2.2.2.2.1) gq74.out gq74.ps
def gq74.E : Env := ⟨tt, lkF [(59, gq59.fi), (120, gq120.fi), (122, gq122.fi), (123, gq123.fi), (124, gq124.fi), (125, gq125.fi), (126, gq126.fi)], 95, 0, [], []⟩
def gq74.sh1 : SK := ⟨[.v (.one (.bptr 0 0)), .v (.one (.bptr 1 0)), .v (.one (.bptr 2 0))], [.box [.int .i64, .slv [1] kFile], .box [.int .i64, .int .i64, .str, .str, .str, .slv [2] (.int .i64)], .box [.int .i64, .nil]]⟩
def gq74.sh1n : SK := ⟨[.v (.one (.bptr 0 0)), .v (.one (.bptr 1 0)), .v (.one (.bptr 2 0))], [.box [.int .i64, .slv [1] kFile], .box [.int .i64, .int .i64, .str, .str, .str, .slv [2] (.int .i64)], .box [.int .i64, .nil]]⟩
def gq74.sh1r : SK := ⟨[.v (.one (.bptr 0 0)), .v (.one (.int .i64))], [.box [.int .i64, .slv [0, 1] kFile]]⟩
def gq74.ko1 : Ex → List CastAt × List Nat
 | .nrm => ([], [2, 3, 4])
 | .ret => ([⟨4, true, 1, .slv [0, 1] kFile⟩], [4, 5])
 | .ext i => ([], [])
def gq74.G1 (R : Type) (t : gq74.sh1.T) (K : Ex → Kp → Option R) : Option R := gq74.j1 (fun y0 y1 y2 y3 y4 y5 y6 y7 y8 => K .nrm (SK.enc gq74.sh1n (((), (), (), ()), ((y0, y1, ()), (y2, y3, y4, y5, y6, y7, ()), (y8, (), ()), ())))) (fun y0 y1 y2 => K .ret (SK.enc gq74.sh1r (((), y0, ()), ((y1, y2, ()), ())))) t.2.1.1 t.2.1.2.1 t.2.2.1.1 t.2.2.1.2.1 t.2.2.1.2.2.1 t.2.2.1.2.2.2.1 t.2.2.1.2.2.2.2.1 t.2.2.1.2.2.2.2.2.1 t.2.2.2.1.1
def gq74.S1 : Sum := ⟨([], [2, 3, 4]), sumF gq74.sh1 (gq74.G1), gq74.ko1⟩
theorem gq74.ok1 (hE : EOk Tryz.prog (gq74.E)) : SumOk Tryz.prog gq74.E (cL (cR (bodyOf Tryz.f74))) (gq74.S1) := by
 have hh : HintOk Tryz.prog gq74.E (cL (cR (bodyOf Tryz.f74))) (.a) := HintOk.n1 (Q := True) (by kernel_rfl) trivial
 exact sumS (kin := ([], [2, 3, 4])) (kout := gq74.ko1) (sh := gq74.sh1) (F := gq74.G1) (ops_ok (hE.gv _)) (by kernel_rfl) hh (fun R t K => by kernel_rfl)
theorem gq74.hok (hE : EOk Tryz.prog (gq74.E)) : HintOk Tryz.prog gq74.E (bodyOf Tryz.f74) (.n (.a) (.n (.s (gq74.S1)) (.a))) := HintOk.n1 (Q := (True) ∧ ((SumOk Tryz.prog gq74.E (cL (cR (bodyOf Tryz.f74))) (gq74.S1)) ∧ (True))) (by kernel_rfl) ⟨trivial, ⟨(gq74.ok1 hE), trivial⟩⟩
theorem gq74.hE : EOk Tryz.prog (gq74.E) := EOk.of ttOk (⟨gq59.fok, ⟨gq120.fok, ⟨gq122.fok, ⟨gq123.fok, ⟨gq124.fok, ⟨gq125.fok, ⟨gq126.fok, trivial⟩⟩⟩⟩⟩⟩⟩)
theorem gq74.fok : FOk Tryz.prog 74 gq74.fi :=
 fokS (E := gq74.E) (wy := ⟨[[none, some (kFile, false)], [none]], [[], []], [⟨4, true, 1, .slv [0, 1] kFile⟩]⟩) (h := (fun gs => .n (.a) (.n (.s (gq74.S1)) (.a)))) (G := fun t g => gq74.F (fun y0 y1 y2 => g (y0, y1, y2)) t.1.1 t.1.2.1 t.2.1.1 t.2.1.2.1 t.2.1.2.2.1 t.2.1.2.2.2.1 t.2.1.2.2.2.2.1 t.2.1.2.2.2.2.2.1) (by kernel_rfl) gq74.hE Tryz.func74 (by kernel_rfl) rfl (Nat.le_refl _) (fun t => HintOk.n1 (by kernel_rfl) (gq74.hok gq74.hE)) (fun t g => gq74.F_nat g (fun y0 y1 y2 => some (y0, y1, y2)) _ _ _ _ _ _ _ _) (fun t => by kernel_rfl)
def gq29.F {R : Type} (kk : Int → List (El kFile) → Int → Option R) (d_Room : Int) (d_Files : List (El kFile)) (a_Kind : Int) (a_N : Int) (a_Name : ByteArray) (a_To : ByteArray) (a_Data : ByteArray) (a_Keep : List Int) : Option R :=
 cond (decide ((ByteArray.size a_Name : Int) > (65536 : Int))) (kk (0 : Int) [] (2 : Int)) (
  cond (decide ((ByteArray.size a_To : Int) > (65536 : Int))) (kk (0 : Int) [] (2 : Int)) (
   cond (decide ((ByteArray.size a_Data : Int) > (65536 : Int))) (kk (0 : Int) [] (2 : Int)) (
    cond (decide ((List.length a_Keep : Int) > (4096 : Int))) (kk (0 : Int) [] (2 : Int)) (
     (gq73 d_Room d_Files).bind fun r =>
     cond (!r) (kk (0 : Int) [] (1 : Int)) (
      (gq74 d_Room d_Files a_Kind a_N a_Name a_To a_Data a_Keep).bind fun r1 =>
      (gq50 r1.1 r1.2.1).bind fun r2 =>
      kk r2.1 r2.2 r1.2.2)))))
theorem gq29.F_nat {R S : Type} (g : R → Option S) (kk : Int → List (El kFile) → Int → Option R) (d_Room d_Files a_Kind a_N a_Name a_To a_Data a_Keep) : gq29.F (fun y0 y1 y2 => (kk y0 y1 y2).bind g) d_Room d_Files a_Kind a_N a_Name a_To a_Data a_Keep = (gq29.F kk d_Room d_Files a_Kind a_N a_Name a_To a_Data a_Keep).bind g := by
 simp only [gq29.F, grd_bind, cnd_bind, bnd_bind, non_bind]
def gq29 (d_Room : Int) (d_Files : List (El kFile)) (a_Kind : Int) (a_N : Int) (a_Name : ByteArray) (a_To : ByteArray) (a_Data : ByteArray) (a_Keep : List Int) : Option (Int × List (El kFile) × Int) := gq29.F (fun y0 y1 y2 => some (y0, y1, y2)) d_Room d_Files a_Kind a_N a_Name a_To a_Data a_Keep
def gq29.out : (Int × List (El kFile) × Int) → CRes := fun a => ⟨encL SV.enc [.agg [.int .i64, .own [] kFile true], .one (.int .i64)] ((a.1, a.2.1, ()), a.2.2, ()), [encL SC.enc [] (), encL SC.enc [] ()]⟩
def gq29.ps : List PS := [.val [none, some (kFile, false)], .val [none, none, none, none, none, some ((.int .i64), false)]]
def gq29.sA : List SA := [.v (.agg [.int .i64, .slv [] kFile]), .v (.agg [.int .i64, .int .i64, .str, .str, .str, .slv [] (.int .i64)])]
def gq29.fi : FI := FIs gq29.sA (Int × List (El kFile) × Int) (fun t => gq29 t.1.1 t.1.2.1 t.2.1.1 t.2.1.2.1 t.2.1.2.2.1 t.2.1.2.2.2.1 t.2.1.2.2.2.2.1 t.2.1.2.2.2.2.2.1) gq29.out gq29.ps
def gq29.E : Env := ⟨tt, lkF [(50, gq50.fi), (73, gq73.fi), (74, gq74.fi)], 44, 0, [], []⟩
theorem gq29.hok (hE : EOk Tryz.prog (gq29.E)) : HintOk Tryz.prog gq29.E (bodyOf Tryz.f29) (.a) := HintOk.n1 (Q := True) (by kernel_rfl) trivial
theorem gq29.hE : EOk Tryz.prog (gq29.E) := EOk.of ttOk (⟨gq50.fok, ⟨gq73.fok, ⟨gq74.fok, trivial⟩⟩⟩)
theorem gq29.fok : FOk Tryz.prog 29 gq29.fi :=
 fokS (E := gq29.E) (wy := ⟨[[none, some (kFile, true)], [none]], [[], []], []⟩) (h := (fun gs => .a)) (G := fun t g => gq29.F (fun y0 y1 y2 => g (y0, y1, y2)) t.1.1 t.1.2.1 t.2.1.1 t.2.1.2.1 t.2.1.2.2.1 t.2.1.2.2.2.1 t.2.1.2.2.2.2.1 t.2.1.2.2.2.2.2.1) (by kernel_rfl) gq29.hE Tryz.func29 (by kernel_rfl) rfl (Nat.le_refl _) (fun t => HintOk.n1 (by kernel_rfl) (gq29.hok gq29.hE)) (fun t g => gq29.F_nat g (fun y0 y1 y2 => some (y0, y1, y2)) _ _ _ _ _ _ _ _) (fun t => by kernel_rfl)
def gq30.F {R : Type} (kk : Int → List (El kFile) → Int → Option R) (d_Room : Int) (d_Files : List (El kFile)) : Option R :=
 (gq21 d_Room d_Files).bind fun r =>
 cond (r.2.2.2.2 != (0 : Int)) (kk (0 : Int) [] r.2.2.2.2) (
  (gq53 d_Room d_Files).bind fun r1 =>
  (gq75 r.1 r.2.1 r.2.2.1 r.2.2.2.1).bind fun r2 =>
  cond (decide (r.2.2.2.1 > (0 : Int))) (
   (gq76 d_Room d_Files r2).bind fun r3 =>
   grd (gIx r3.1 (List.length d_Files)) <|
   cond ((IntKind.wrap .i64 ((ByteArray.size (rdE kFile d_Files (Int.toNat r3.1)).2.1 : Int) - r.2.2.2.1)) == (0 : Int)) (
    (gq55 r1.1 r1.2 (4 : Int) (IntKind.wrap .i64 ((ByteArray.size (rdE kFile d_Files (Int.toNat r3.1)).2.1 : Int) - r.2.2.2.1)) r2 ByteArray.empty ByteArray.empty []).bind fun r4 =>
    kk r4.2.1 r4.2.2 (0 : Int)) (
    (gq55 r1.1 r1.2 (6 : Int) (IntKind.wrap .i64 ((ByteArray.size (rdE kFile d_Files (Int.toNat r3.1)).2.1 : Int) - r.2.2.2.1)) r2 ByteArray.empty ByteArray.empty []).bind fun r5 =>
    kk r5.2.1 r5.2.2 (0 : Int))) (kk r1.1 r1.2 (0 : Int)))
theorem gq30.F_nat {R S : Type} (g : R → Option S) (kk : Int → List (El kFile) → Int → Option R) (d_Room d_Files) : gq30.F (fun y0 y1 y2 => (kk y0 y1 y2).bind g) d_Room d_Files = (gq30.F kk d_Room d_Files).bind g := by
 simp only [gq30.F, grd_bind, cnd_bind, bnd_bind, non_bind]
def gq30 (d_Room : Int) (d_Files : List (El kFile)) : Option (Int × List (El kFile) × Int) := gq30.F (fun y0 y1 y2 => some (y0, y1, y2)) d_Room d_Files
def gq30.out : (Int × List (El kFile) × Int) → CRes := fun a => ⟨encL SV.enc [.agg [.int .i64, .own [] kFile true], .one (.int .i64)] ((a.1, a.2.1, ()), a.2.2, ()), [encL SC.enc [] ()]⟩
def gq30.ps : List PS := [.val [none, some (kFile, false)]]
def gq30.sA : List SA := [.v (.agg [.int .i64, .slv [] kFile])]
def gq30.fi : FI := FIs gq30.sA (Int × List (El kFile) × Int) (fun t => gq30 t.1.1 t.1.2.1) gq30.out gq30.ps
def gq30.E : Env := ⟨tt, lkF [(21, gq21.fi), (53, gq53.fi), (55, gq55.fi), (75, gq75.fi), (76, gq76.fi)], 52, 0, [], []⟩
theorem gq30.hok (hE : EOk Tryz.prog (gq30.E)) : HintOk Tryz.prog gq30.E (bodyOf Tryz.f30) (.a) := HintOk.n1 (Q := True) (by kernel_rfl) trivial
theorem gq30.hE : EOk Tryz.prog (gq30.E) := EOk.of ttOk (⟨gq21.fok, ⟨gq53.fok, ⟨gq55.fok, ⟨gq75.fok, ⟨gq76.fok, trivial⟩⟩⟩⟩⟩)
theorem gq30.fok : FOk Tryz.prog 30 gq30.fi :=
 fokS (E := gq30.E) (wy := ⟨[[none, some (kFile, true)], [none]], [[]], []⟩) (h := (fun gs => .a)) (G := fun t g => gq30.F (fun y0 y1 y2 => g (y0, y1, y2)) t.1.1 t.1.2.1) (by kernel_rfl) gq30.hE Tryz.func30 (by kernel_rfl) rfl (Nat.le_refl _) (fun t => HintOk.n1 (by kernel_rfl) (gq30.hok gq30.hE)) (fun t g => gq30.F_nat g (fun y0 y1 y2 => some (y0, y1, y2)) _ _) (fun t => by kernel_rfl)
def gq49.F {R : Type} (kk : Int → List ByteArray → List ByteArray → Int → Int → Option R) (d_Room : Int) (d_Files : List (El kFile)) : Option R :=
 (gq73 d_Room d_Files).bind fun r =>
 cond (!r) (kk (0 : Int) [] [] (0 : Int) (1 : Int)) (
  (gq94 d_Room d_Files).bind fun r1 =>
  cond (r1.2.2.2.2 != (0 : Int)) (kk (0 : Int) [] [] (0 : Int) r1.2.2.2.2) (kk r1.1 r1.2.1 r1.2.2.1 r1.2.2.2.1 (0 : Int)))
theorem gq49.F_nat {R S : Type} (g : R → Option S) (kk : Int → List ByteArray → List ByteArray → Int → Int → Option R) (d_Room d_Files) : gq49.F (fun y0 y1 y2 y3 y4 => (kk y0 y1 y2 y3 y4).bind g) d_Room d_Files = (gq49.F kk d_Room d_Files).bind g := by
 simp only [gq49.F, grd_bind, cnd_bind, bnd_bind, non_bind]
def gq49 (d_Room : Int) (d_Files : List (El kFile)) : Option (Int × List ByteArray × List ByteArray × Int × Int) := gq49.F (fun y0 y1 y2 y3 y4 => some (y0, y1, y2, y3, y4)) d_Room d_Files
def gq49.out : (Int × List ByteArray × List ByteArray × Int × Int) → CRes := fun a => ⟨encL SV.enc [.agg [.int .i64, .own [] .str true, .own [] .str true, .int .i64], .one (.int .i64)] ((a.1, a.2.1, a.2.2.1, a.2.2.2.1, ()), a.2.2.2.2, ()), [encL SC.enc [] ()]⟩
def gq49.ps : List PS := [.val [none, some (kFile, false)]]
def gq49.sA : List SA := [.v (.agg [.int .i64, .slv [] kFile])]
def gq49.fi : FI := FIs gq49.sA (Int × List ByteArray × List ByteArray × Int × Int) (fun t => gq49 t.1.1 t.1.2.1) gq49.out gq49.ps
def gq49.E : Env := ⟨tt, lkF [(73, gq73.fi), (94, gq94.fi)], 20, 0, [], []⟩
theorem gq49.hok (hE : EOk Tryz.prog (gq49.E)) : HintOk Tryz.prog gq49.E (bodyOf Tryz.f49) (.a) := HintOk.n1 (Q := True) (by kernel_rfl) trivial
theorem gq49.hE : EOk Tryz.prog (gq49.E) := EOk.of ttOk (⟨gq73.fok, ⟨gq94.fok, trivial⟩⟩)
theorem gq49.fok : FOk Tryz.prog 49 gq49.fi :=
 fokS (E := gq49.E) (wy := ⟨[[none, some (.str, true), some (.str, true), none], [none]], [[]], []⟩) (h := (fun gs => .a)) (G := fun t g => gq49.F (fun y0 y1 y2 y3 y4 => g (y0, y1, y2, y3, y4)) t.1.1 t.1.2.1) (by kernel_rfl) gq49.hE Tryz.func49 (by kernel_rfl) rfl (Nat.le_refl _) (fun t => HintOk.n1 (by kernel_rfl) (gq49.hok gq49.hE)) (fun t g => gq49.F_nat g (fun y0 y1 y2 y3 y4 => some (y0, y1, y2, y3, y4)) _ _) (fun t => by kernel_rfl)
def gq77.F {R : Type} (kk : Int → List (El kFile) → Option R) (d_Room : Int) (d_Files : List (El kFile)) (w_First : Int) (w_Records : List ByteArray) (w_Names : List ByteArray) (w_Torn : Int) : Option R :=
 cond (w_Torn == (0 : Int)) (kk d_Room d_Files) (
  grd (gIx (IntKind.wrap .i64 ((List.length w_Names : Int) - (1 : Int))) (List.length w_Names)) <|
  (gq130 (rdE (.str : Kd) w_Names (Int.toNat (IntKind.wrap .i64 ((List.length w_Names : Int) - (1 : Int)))))).bind fun r =>
  (gq96 d_Room d_Files r).bind fun r1 =>
  cond (w_Torn == (ByteArray.size r1 : Int)) (
   (gq74 d_Room d_Files (4 : Int) (0 : Int) (rdE (.str : Kd) w_Names (Int.toNat (IntKind.wrap .i64 ((List.length w_Names : Int) - (1 : Int))))) ByteArray.empty ByteArray.empty []).bind fun r2 =>
   kk r2.1 r2.2.1) (
   (gq74 d_Room d_Files (6 : Int) (IntKind.wrap .i64 ((ByteArray.size r1 : Int) - w_Torn)) (rdE (.str : Kd) w_Names (Int.toNat (IntKind.wrap .i64 ((List.length w_Names : Int) - (1 : Int))))) ByteArray.empty ByteArray.empty []).bind fun r3 =>
   kk r3.1 r3.2.1))
theorem gq77.F_nat {R S : Type} (g : R → Option S) (kk : Int → List (El kFile) → Option R) (d_Room d_Files w_First w_Records w_Names w_Torn) : gq77.F (fun y0 y1 => (kk y0 y1).bind g) d_Room d_Files w_First w_Records w_Names w_Torn = (gq77.F kk d_Room d_Files w_First w_Records w_Names w_Torn).bind g := by
 simp only [gq77.F, grd_bind, cnd_bind, bnd_bind, non_bind]
def gq77 (d_Room : Int) (d_Files : List (El kFile)) (w_First : Int) (w_Records : List ByteArray) (w_Names : List ByteArray) (w_Torn : Int) : Option (Int × List (El kFile)) := gq77.F (fun y0 y1 => some (y0, y1)) d_Room d_Files w_First w_Records w_Names w_Torn
def gq77.out : (Int × List (El kFile)) → CRes := fun a => ⟨encL SV.enc [.agg [.int .i64, .slv [0, 1] kFile]] ((a.1, a.2, ()), ()), [encL SC.enc [] (), encL SC.enc [] ()]⟩
def gq77.ps : List PS := [.val [none, some (kFile, false)], .val [none, some (.str, false), some (.str, false), none]]
def gq77.sA : List SA := [.v (.agg [.int .i64, .slv [] kFile]), .v (.agg [.int .i64, .slv [] .str, .slv [] .str, .int .i64])]
def gq77.fi : FI := FIs gq77.sA (Int × List (El kFile)) (fun t => gq77 t.1.1 t.1.2.1 t.2.1.1 t.2.1.2.1 t.2.1.2.2.1 t.2.1.2.2.2.1) gq77.out gq77.ps
def gq77.E : Env := ⟨tt, lkF [(74, gq74.fi), (96, gq96.fi), (130, gq130.fi)], 53, 0, [], []⟩
theorem gq77.hok (hE : EOk Tryz.prog (gq77.E)) : HintOk Tryz.prog gq77.E (bodyOf Tryz.f77) (.a) := HintOk.n1 (Q := True) (by kernel_rfl) trivial
theorem gq77.hE : EOk Tryz.prog (gq77.E) := EOk.of ttOk (⟨gq74.fok, ⟨gq96.fok, ⟨gq130.fok, trivial⟩⟩⟩)
theorem gq77.fok : FOk Tryz.prog 77 gq77.fi :=
 fokS (E := gq77.E) (wy := ⟨[[none, some (kFile, false)]], [[], []], [⟨4, true, 1, .slv [0, 1] kFile⟩]⟩) (h := (fun gs => .a)) (G := fun t g => gq77.F (fun y0 y1 => g (y0, y1)) t.1.1 t.1.2.1 t.2.1.1 t.2.1.2.1 t.2.1.2.2.1 t.2.1.2.2.2.1) (by kernel_rfl) gq77.hE Tryz.func77 (by kernel_rfl) rfl (Nat.le_refl _) (fun t => HintOk.n1 (by kernel_rfl) (gq77.hok gq77.hE)) (fun t g => gq77.F_nat g (fun y0 y1 => some (y0, y1)) _ _ _ _ _ _) (fun t => by kernel_rfl)
def gq31.F {R : Type} (kk : Int → List (El kFile) → Int → Option R) (d_Room : Int) (d_Files : List (El kFile)) : Option R :=
 (gq49 d_Room d_Files).bind fun r =>
 cond (r.2.2.2.2 != (0 : Int)) (kk (0 : Int) [] r.2.2.2.2) (
  (gq77 d_Room d_Files r.1 r.2.1 r.2.2.1 r.2.2.2.1).bind fun r1 =>
  (gq50 r1.1 r1.2).bind fun r2 =>
  kk r2.1 r2.2 (0 : Int))
theorem gq31.F_nat {R S : Type} (g : R → Option S) (kk : Int → List (El kFile) → Int → Option R) (d_Room d_Files) : gq31.F (fun y0 y1 y2 => (kk y0 y1 y2).bind g) d_Room d_Files = (gq31.F kk d_Room d_Files).bind g := by
 simp only [gq31.F, grd_bind, cnd_bind, bnd_bind, non_bind]
def gq31 (d_Room : Int) (d_Files : List (El kFile)) : Option (Int × List (El kFile) × Int) := gq31.F (fun y0 y1 y2 => some (y0, y1, y2)) d_Room d_Files
def gq31.out : (Int × List (El kFile) × Int) → CRes := fun a => ⟨encL SV.enc [.agg [.int .i64, .own [] kFile true], .one (.int .i64)] ((a.1, a.2.1, ()), a.2.2, ()), [encL SC.enc [] ()]⟩
def gq31.ps : List PS := [.val [none, some (kFile, false)]]
def gq31.sA : List SA := [.v (.agg [.int .i64, .slv [] kFile])]
def gq31.fi : FI := FIs gq31.sA (Int × List (El kFile) × Int) (fun t => gq31 t.1.1 t.1.2.1) gq31.out gq31.ps
def gq31.E : Env := ⟨tt, lkF [(49, gq49.fi), (50, gq50.fi), (77, gq77.fi)], 19, 0, [], []⟩
theorem gq31.hok (hE : EOk Tryz.prog (gq31.E)) : HintOk Tryz.prog gq31.E (bodyOf Tryz.f31) (.a) := HintOk.n1 (Q := True) (by kernel_rfl) trivial
theorem gq31.hE : EOk Tryz.prog (gq31.E) := EOk.of ttOk (⟨gq49.fok, ⟨gq50.fok, ⟨gq77.fok, trivial⟩⟩⟩)
theorem gq31.fok : FOk Tryz.prog 31 gq31.fi :=
 fokS (E := gq31.E) (wy := ⟨[[none, some (kFile, true)], [none]], [[]], []⟩) (h := (fun gs => .a)) (G := fun t g => gq31.F (fun y0 y1 y2 => g (y0, y1, y2)) t.1.1 t.1.2.1) (by kernel_rfl) gq31.hE Tryz.func31 (by kernel_rfl) rfl (Nat.le_refl _) (fun t => HintOk.n1 (by kernel_rfl) (gq31.hok gq31.hE)) (fun t g => gq31.F_nat g (fun y0 y1 y2 => some (y0, y1, y2)) _ _) (fun t => by kernel_rfl)
def gq32.F {R : Type} (kk : Bool → Option R) (list : List ByteArray) (head : List ByteArray) : Option R :=
 cond (decide ((List.length list : Int) ≥ (List.length head : Int))) (
  grd (gSl (0 : Int) (List.length head : Int) (List.length list)) <|
  (gq24 (sub list (0 : Int) (List.length head : Int)) head).bind fun r =>
  kk r) (kk false)
theorem gq32.F_nat {R S : Type} (g : R → Option S) (kk : Bool → Option R) (list head) : gq32.F (fun y0 => (kk y0).bind g) list head = (gq32.F kk list head).bind g := by
 simp only [gq32.F, grd_bind, cnd_bind, bnd_bind, non_bind]
def gq32 (list : List ByteArray) (head : List ByteArray) : Option Bool := gq32.F (fun y0 => some y0) list head
def gq32.out : Bool → CRes := fun a => ⟨encL SV.enc [.one (.bool)] (a, ()), [encL SC.enc [] (), encL SC.enc [] ()]⟩
def gq32.ps : List PS := [.val [some (.str, false)], .val [some (.str, false)]]
def gq32.sA : List SA := [.v (.one (.slv [] .str)), .v (.one (.slv [] .str))]
def gq32.fi : FI := FIs gq32.sA (Bool) (fun t => gq32 t.1 t.2.1) gq32.out gq32.ps
def gq32.E : Env := ⟨tt, lkF [(24, gq24.fi)], 18, 0, [], []⟩
theorem gq32.hok (hE : EOk Tryz.prog (gq32.E)) : HintOk Tryz.prog gq32.E (bodyOf Tryz.f32) (.a) := HintOk.n1 (Q := True) (by kernel_rfl) trivial
theorem gq32.hE : EOk Tryz.prog (gq32.E) := EOk.of ttOk (⟨gq24.fok, trivial⟩)
theorem gq32.fok : FOk Tryz.prog 32 gq32.fi :=
 fokS (E := gq32.E) (wy := ⟨[[none]], [[], []], []⟩) (h := (fun gs => .a)) (G := fun t g => gq32.F (fun y0 => g y0) t.1 t.2.1) (by kernel_rfl) gq32.hE Tryz.func32 (by kernel_rfl) rfl (Nat.le_refl _) (fun t => HintOk.n1 (by kernel_rfl) (gq32.hok gq32.hE)) (fun t g => gq32.F_nat g (fun y0 => some y0) _ _) (fun t => by kernel_rfl)
def gq5.j1 {R : Type} (kkn : List Int → List Int → Int → Int → Int → ByteArray → Int → List ByteArray → Int → List (El kFile) → List (El kFile) → Option R) (code : List Int) (more : List Int) (synced : Int) (n_ : Int) (i : Int) (r : ByteArray) (d : Int) (list : List ByteArray) (acts : List (El kka9e)) (next : Int) (l : List (El kFile)) (l1 : List (El kFile)) : Option R :=
 cond ((List.length acts : Int) == (2 : Int)) (kkn code more (List.length list : Int) n_ i r d list next l l1) (kkn code more synced n_ i r d list next l l1)
theorem gq5.j1_nat {R S : Type} (g : R → Option S) (kkn : List Int → List Int → Int → Int → Int → ByteArray → Int → List ByteArray → Int → List (El kFile) → List (El kFile) → Option R) (code more synced n_ i r d list acts next l l1) : gq5.j1 (fun y0 y1 y2 y3 y4 y5 y6 y7 y8 y9 y10 => (kkn y0 y1 y2 y3 y4 y5 y6 y7 y8 y9 y10).bind g) code more synced n_ i r d list acts next l l1 = (gq5.j1 kkn code more synced n_ i r d list acts next l l1).bind g := by
 simp only [gq5.j1, grd_bind, cnd_bind, bnd_bind, non_bind]
def gq5.l2 {R : Type} (kke0 : List Int → Int → Int → List ByteArray → List (El kFile) → Option R) (kkr : Bool → Option R) : Nat → List Int → List Int → Int → Int → Int → Int → List ByteArray → List (El kFile) → Option R
 | 0, _, _, _, _, _, _, _, _ => none
 | n + 1, code, more, synced, n_, i, d, list, l =>
  cond (decide (i < n_)) (
   grd (gRm (((List.length [IntKind.wrap .u8 i]) + (List.length code)) * 1)) <|
   (gq20 ([IntKind.wrap .u8 i] ++ code)).bind fun r =>
   (gq25 d l r).bind fun r1 =>
   (gq26 d l r).bind fun r2 =>
   (gq27 d l r).bind fun r3 =>
   cond (r1.2 != r2.2) (kkr false) (
    cond ((List.length r1.1 : Int) != (List.length r2.1 : Int)) (kkr false) (
     cond (r3.2.2 != (0 : Int)) (kkr false) (
      gq5.j1 (fun code1 more1 synced1 n_1 i1 r4 d1 list1 next l1 l2 =>
       grd (gRm (((List.length list1) + (List.length [r4])) * 16)) <|
       (l_at more1 (IntKind.wrap .i64 (i1 + (1 : Int))) (3 : Int)).bind fun r5 =>
       cond (r5 == (0 : Int)) (
        (gq28 next l2).bind fun r6 =>
        cond (r6.2.2 != (0 : Int)) (kkr false) (
         gq5.l2 kke0 kkr n code1 more1 (List.length (list1 ++ [r4]) : Int) n_1 (IntKind.wrap .i64 (i1 + (1 : Int))) r6.1 (list1 ++ [r4]) r6.2.1)) (
        gq5.l2 kke0 kkr n code1 more1 synced1 n_1 (IntKind.wrap .i64 (i1 + (1 : Int))) next (list1 ++ [r4]) l2)) code more synced n_ i r d list r1.1 r3.1 l r3.2.1)))) (kke0 more synced d list l)
theorem gq5.l2_nat {R S : Type} (g : R → Option S) (kke0 : List Int → Int → Int → List ByteArray → List (El kFile) → Option R) (kkr : Bool → Option R) : ∀ n code more synced n_ i d list l, gq5.l2 (fun y0 y1 y2 y3 y4 => (kke0 y0 y1 y2 y3 y4).bind g) (fun y0 => (kkr y0).bind g) n code more synced n_ i d list l = (gq5.l2 kke0 kkr n code more synced n_ i d list l).bind g := by
 intro n
 induction n with
 | zero => intros; rfl
 | succ n ih => intros; simp only [gq5.l2, grd_bind, cnd_bind, bnd_bind, non_bind, ← gq5.j1_nat, ih]
def gq5.l3 {R : Type} (kke2 : Int → Int → List ByteArray → List Int → List (El kFile) → Option R) : Nat → List Int → Int → Int → Int → List ByteArray → List Int → List (El kFile) → Option R
 | 0, _, _, _, _, _, _, _ => none
 | n + 1, more, synced, i, d, list, keep, l =>
  cond (decide (i < (8 : Int))) (
   (l_at more (IntKind.wrap .i64 ((20 : Int) + i)) (60 : Int)).bind fun r =>
   grd (gRm (((List.length keep) + (List.length [r])) * 8)) <|
   gq5.l3 kke2 n more synced (IntKind.wrap .i64 (i + (1 : Int))) d list (keep ++ [r]) l) (kke2 synced d list keep l)
theorem gq5.l3_nat {R S : Type} (g : R → Option S) (kke2 : Int → Int → List ByteArray → List Int → List (El kFile) → Option R) : ∀ n more synced i d list keep l, gq5.l3 (fun y0 y1 y2 y3 y4 => (kke2 y0 y1 y2 y3 y4).bind g) n more synced i d list keep l = (gq5.l3 kke2 n more synced i d list keep l).bind g := by
 intro n
 induction n with
 | zero => intros; rfl
 | succ n ih => intros; simp only [gq5.l3, grd_bind, cnd_bind, bnd_bind, non_bind, ih]
def gq5.F {R : Type} (kk : Bool → Option R) (code : List Int) (more : List Int) : Option R :=
 cond (decide ((List.length code : Int) > (1048576 : Int))) (kk true) (
  cond (decide ((List.length more : Int) > (1048576 : Int))) (kk true) (
   (gq17 (3000 : Int)).bind fun r =>
   (l_at more (0 : Int) (7 : Int)).bind fun r1 =>
   gq5.l2 (fun more1 synced d list l =>
    (gq21 d l).bind fun r2 =>
    cond (r2.2.2.2.2 != (0 : Int)) (kk false) (
     (gq24 r2.2.1 list).bind fun r3 =>
     cond (!r3) (kk false) (
      cond (r2.1 != (0 : Int)) (kk false) (
       cond (r2.2.2.2.1 != (0 : Int)) (kk false) (
        gq5.l3 (fun synced1 d1 list1 keep l1 =>
         (gq29 d1 l1 (5 : Int) (0 : Int) ByteArray.empty ByteArray.empty ByteArray.empty keep).bind fun r4 =>
         (gq30 r4.1 r4.2.1).bind fun r5 =>
         (gq21 r5.1 r5.2.1).bind fun r6 =>
         (gq31 r4.1 r4.2.1).bind fun r7 =>
         cond (r4.2.2 == (0 : Int)) (
          cond (r5.2.2 == (0 : Int)) (
           cond (r6.2.2.2.2 == (0 : Int)) (
            cond (r6.2.2.2.1 == (0 : Int)) (
             (gq22 r5.1 r5.2.1 r7.1 r7.2.1).bind fun r8 =>
             cond (r8) (
              (gq32 list1 r6.2.1).bind fun r9 =>
              cond (r9) (kk (decide ((List.length r6.2.1 : Int) ≥ synced1))) (kk false)) (kk false)) (kk false)) (kk false)) (kk false)) (kk false)) fuel more1 synced (0 : Int) d list ([] : List Int) l))))) (fun b => kk b) fuel code more (0 : Int) (IntKind.wrap .i64 ((1 : Int) + r1)) (0 : Int) r.1 ([] : List ByteArray) r.2.1))
theorem gq5.F_nat {R S : Type} (g : R → Option S) (kk : Bool → Option R) (code more) : gq5.F (fun y0 => (kk y0).bind g) code more = (gq5.F kk code more).bind g := by
 simp only [gq5.F, grd_bind, cnd_bind, bnd_bind, non_bind, ← gq5.l2_nat, ← gq5.l3_nat]
def gq5 (code : List Int) (more : List Int) : Option Bool := gq5.F (fun y0 => some y0) code more
def gq5.out : Bool → CRes := fun a => ⟨encL SV.enc [.one (.bool)] (a, ()), [encL SC.enc [] (), encL SC.enc [] ()]⟩
def gq5.ps : List PS := [.val [some ((.int .u8), false)], .val [some ((.int .u8), false)]]
def gq5.sA : List SA := [.v (.one (.slv [] (.int .u8))), .v (.one (.slv [] (.int .u8)))]
def gq5.fi : FI := FIs gq5.sA (Bool) (fun t => gq5 t.1 t.2.1) gq5.out gq5.ps
def gq5.E : Env := ⟨tt, lkF [(17, gq17.fi), (18, l_at.fi), (20, gq20.fi), (21, gq21.fi), (22, gq22.fi), (24, gq24.fi), (25, gq25.fi), (26, gq26.fi), (27, gq27.fi), (28, gq28.fi), (29, gq29.fi), (30, gq30.fi), (31, gq31.fi), (32, gq32.fi)], 207, 0, [], []⟩
def gq5.sh1 : SK := ⟨[.v (.one (.slv [1] (.int .u8))), .v (.one (.slv [2] (.int .u8))), .v (.one (.bptr 0 0)), .v (.one (.slo 1)), .v (.one (.int .i64)), .v (.one (.int .i64)), .v (.one (.int .i64)), .v (.one (.str)), .v (.one (.slo 2)), .v (.one (.bptr 3 0))], [.box [.int .i64, .slo 4], .arr .str [] true, .arr kka9e [] true, .box [.int .i64, .slo 5], .arr kFile [] true, .arr kFile [] true]⟩
def gq5.sh1n : SK := ⟨[.v (.one (.slv [1] (.int .u8))), .v (.one (.slv [2] (.int .u8))), .v (.one (.bptr 0 0)), .v (.one (.slo 1)), .v (.one (.int .i64)), .v (.one (.int .i64)), .v (.one (.int .i64)), .v (.one (.str)), .v (.one (.bptr 2 0))], [.box [.int .i64, .slo 3], .arr .str [] true, .box [.int .i64, .slo 4], .arr kFile [] true, .arr kFile [] true]⟩
def gq5.ko1 : Ex → List CastAt × List Nat
 | .nrm => ([], [0, 1, 5, 7, 8, 9, 10, 11, 16])
 | .ret => ([], [])
 | .ext i => ([], [])
def gq5.G1 (R : Type) (t : gq5.sh1.T) (K : Ex → Kp → Option R) : Option R := gq5.j1 (fun y0 y1 y2 y3 y4 y5 y6 y7 y8 y9 y10 => K .nrm (SK.enc gq5.sh1n ((y0, y1, (), (), y2, y3, y4, y5, (), ()), ((y6, (), ()), y7, (y8, (), ()), y9, y10, ())))) t.1.1 t.1.2.1 t.1.2.2.2.2.1 t.1.2.2.2.2.2.1 t.1.2.2.2.2.2.2.1 t.1.2.2.2.2.2.2.2.1 t.2.1.1 t.2.2.1 t.2.2.2.1 t.2.2.2.2.1.1 t.2.2.2.2.2.1 t.2.2.2.2.2.2.1
def gq5.S1 : Sum := ⟨([], [0, 1, 5, 7, 8, 9, 10, 11, 12, 16]), sumF gq5.sh1 (gq5.G1), gq5.ko1⟩
theorem gq5.ok1 (hE : EOk Tryz.prog (gq5.E)) : SumOk Tryz.prog gq5.E (cL (cR (cR (cR (cR (cR (cB (cL (cR (cB (cB (cR (cL (cR (cR (cR (cR (cR (cR (bodyOf Tryz.f5)))))))))))))))))))) (gq5.S1) := by
 have hh : HintOk Tryz.prog gq5.E (cL (cR (cR (cR (cR (cR (cB (cL (cR (cB (cB (cR (cL (cR (cR (cR (cR (cR (cR (bodyOf Tryz.f5)))))))))))))))))))) (.a) := HintOk.n1 (Q := True) (by kernel_rfl) trivial
 exact sumS (kin := ([], [0, 1, 5, 7, 8, 9, 10, 11, 12, 16])) (kout := gq5.ko1) (sh := gq5.sh1) (F := gq5.G1) (ops_ok (hE.gv _)) (by kernel_rfl) hh (fun R t K => by kernel_rfl)
def gq5.sh2 : SK := ⟨[.v (.one (.slv [1] (.int .u8))), .v (.one (.slv [2] (.int .u8))), .v (.one (.bptr 0 0)), .v (.one (.slo 1)), .v (.one (.int .i64)), .v (.one (.int .i64)), .v (.one (.int .i64))], [.box [.int .i64, .slo 2], .arr .str [] true, .arr kFile [] true]⟩
def gq5.sh2e0 : SK := ⟨[.v (.one (.slv [2] (.int .u8))), .v (.one (.bptr 0 0)), .v (.one (.slo 1)), .v (.one (.int .i64))], [.box [.int .i64, .slo 2], .arr .str [] true, .arr kFile [] true]⟩
def gq5.sh2r : SK := ⟨[.v (.one (.bool))], []⟩
def gq5.ko2 : Ex → List CastAt × List Nat
 | .nrm => ([], [])
 | .ret => ([], [4])
 | .ext i => cond (Nat.beq i 0) ([], [1, 5, 7, 8]) ([], [])
def gq5.G2 (n : Nat) (R : Type) (t : gq5.sh2.T) (K : Ex → Kp → Option R) : Option R := gq5.l2 (fun y0 y1 y2 y3 y4 => K (.ext 0) (SK.enc gq5.sh2e0 ((y0, (), (), y1, ()), ((y2, (), ()), y3, y4, ())))) (fun y0 => K .ret (SK.enc gq5.sh2r ((y0, ()), ()))) n t.1.1 t.1.2.1 t.1.2.2.2.2.1 t.1.2.2.2.2.2.1 t.1.2.2.2.2.2.2.1 t.2.1.1 t.2.2.1 t.2.2.2.1
def gq5.S2 : Sum := ⟨([], [0, 1, 5, 7, 8, 9, 10]), sumF gq5.sh2 (gq5.G2 fuel), gq5.ko2⟩
theorem gq5.ok2 (hE : EOk Tryz.prog (gq5.E)) : SumOk Tryz.prog gq5.E (cB (cR (cL (cR (cR (cR (cR (cR (cR (bodyOf Tryz.f5)))))))))) (gq5.S2) := by
 have hh : HintOk Tryz.prog gq5.E (cB (cB (cR (cL (cR (cR (cR (cR (cR (cR (bodyOf Tryz.f5))))))))))) (.n (.a) (.n (.b (.n (.a) (.n (.a) (.n (.a) (.n (.a) (.n (.a) (.n (.s (gq5.S1)) (.a)))))))) (.a))) := HintOk.n1 (Q := (True) ∧ (((True) ∧ ((True) ∧ ((True) ∧ ((True) ∧ ((True) ∧ ((SumOk Tryz.prog gq5.E (cL (cR (cR (cR (cR (cR (cB (cL (cR (cB (cB (cR (cL (cR (cR (cR (cR (cR (cR (bodyOf Tryz.f5)))))))))))))))))))) (gq5.S1)) ∧ (True))))))) ∧ (True))) (by kernel_rfl) ⟨trivial, ⟨⟨trivial, ⟨trivial, ⟨trivial, ⟨trivial, ⟨trivial, ⟨(gq5.ok1 hE), trivial⟩⟩⟩⟩⟩⟩, trivial⟩⟩
 have h := loopS (kin := ([], [0, 1, 5, 7, 8, 9, 10])) (kout := gq5.ko2) (sh := gq5.sh2) (F := gq5.G2) (ops_ok (hE.gv _)) (by kernel_rfl) hh (fun _ _ _ => rfl) (fun n R t K => by kernel_rfl) fuel
 exact HintOk.n1 (c := (cB (cR (cL (cR (cR (cR (cR (cR (cR (bodyOf Tryz.f5))))))))))) (h := .s (gq5.S2)) (P := Tryz.prog) (E := gq5.E) (by kernel_rfl) h
def gq5.sh3 : SK := ⟨[.v (.one (.slv [2] (.int .u8))), .v (.one (.bptr 0 0)), .v (.one (.slo 1)), .v (.one (.int .i64)), .v (.one (.slo 2)), .v (.one (.int .i64))], [.box [.int .i64, .slo 3], .arr .str [] true, .arr (.int .i64) [] true, .arr kFile [] true]⟩
def gq5.sh3e2 : SK := ⟨[.v (.one (.bptr 0 0)), .v (.one (.slo 1)), .v (.one (.int .i64)), .v (.one (.slo 2))], [.box [.int .i64, .slo 3], .arr .str [] true, .arr (.int .i64) [] true, .arr kFile [] true]⟩
def gq5.ko3 : Ex → List CastAt × List Nat
 | .nrm => ([], [])
 | .ret => ([], [])
 | .ext i => cond (Nat.beq i 2) ([], [5, 7, 8, 22]) ([], [])
def gq5.G3 (n : Nat) (R : Type) (t : gq5.sh3.T) (K : Ex → Kp → Option R) : Option R := gq5.l3 (fun y0 y1 y2 y3 y4 => K (.ext 2) (SK.enc gq5.sh3e2 (((), (), y0, (), ()), ((y1, (), ()), y2, y3, y4, ())))) n t.1.1 t.1.2.2.2.1 t.1.2.2.2.2.2.1 t.2.1.1 t.2.2.1 t.2.2.2.1 t.2.2.2.2.1
def gq5.S3 : Sum := ⟨([], [1, 5, 7, 8, 22, 23]), sumF gq5.sh3 (gq5.G3 fuel), gq5.ko3⟩
theorem gq5.ok3 (hE : EOk Tryz.prog (gq5.E)) : SumOk Tryz.prog gq5.E (cB (cR (cL (cR (cR (cR (cR (cR (cR (cR (cR (cR (cR (bodyOf Tryz.f5)))))))))))))) (gq5.S3) := by
 have hh : HintOk Tryz.prog gq5.E (cB (cB (cR (cL (cR (cR (cR (cR (cR (cR (cR (cR (cR (cR (bodyOf Tryz.f5))))))))))))))) (.a) := HintOk.n1 (Q := True) (by kernel_rfl) trivial
 have h := loopS (kin := ([], [1, 5, 7, 8, 22, 23])) (kout := gq5.ko3) (sh := gq5.sh3) (F := gq5.G3) (ops_ok (hE.gv _)) (by kernel_rfl) hh (fun _ _ _ => rfl) (fun n R t K => by kernel_rfl) fuel
 exact HintOk.n1 (c := (cB (cR (cL (cR (cR (cR (cR (cR (cR (cR (cR (cR (cR (bodyOf Tryz.f5))))))))))))))) (h := .s (gq5.S3)) (P := Tryz.prog) (E := gq5.E) (by kernel_rfl) h
theorem gq5.hok (hE : EOk Tryz.prog (gq5.E)) : HintOk Tryz.prog gq5.E (bodyOf Tryz.f5) (.n (.a) (.n (.a) (.n (.a) (.n (.a) (.n (.a) (.n (.a) (.n (.n (.a) (.b (.s (gq5.S2)))) (.n (.a) (.n (.a) (.n (.a) (.n (.n (.a) (.b (.s (gq5.S3)))) (.a)))))))))))) := HintOk.n1 (Q := (True) ∧ ((True) ∧ ((True) ∧ ((True) ∧ ((True) ∧ ((True) ∧ (((True) ∧ (SumOk Tryz.prog gq5.E (cB (cR (cL (cR (cR (cR (cR (cR (cR (bodyOf Tryz.f5)))))))))) (gq5.S2))) ∧ ((True) ∧ ((True) ∧ ((True) ∧ (((True) ∧ (SumOk Tryz.prog gq5.E (cB (cR (cL (cR (cR (cR (cR (cR (cR (cR (cR (cR (cR (bodyOf Tryz.f5)))))))))))))) (gq5.S3))) ∧ (True)))))))))))) (by kernel_rfl) ⟨trivial, ⟨trivial, ⟨trivial, ⟨trivial, ⟨trivial, ⟨trivial, ⟨⟨trivial, (gq5.ok2 hE)⟩, ⟨trivial, ⟨trivial, ⟨trivial, ⟨⟨trivial, (gq5.ok3 hE)⟩, trivial⟩⟩⟩⟩⟩⟩⟩⟩⟩⟩⟩
theorem gq5.hE : EOk Tryz.prog (gq5.E) := EOk.of ttOk (⟨gq17.fok, ⟨l_at.fok, ⟨gq20.fok, ⟨gq21.fok, ⟨gq22.fok, ⟨gq24.fok, ⟨gq25.fok, ⟨gq26.fok, ⟨gq27.fok, ⟨gq28.fok, ⟨gq29.fok, ⟨gq30.fok, ⟨gq31.fok, ⟨gq32.fok, trivial⟩⟩⟩⟩⟩⟩⟩⟩⟩⟩⟩⟩⟩⟩)
theorem gq5.fok : FOk Tryz.prog 5 gq5.fi :=
 fokS (E := gq5.E) (wy := ⟨[[none]], [[], []], []⟩) (h := (fun gs => .n (.a) (.n (.a) (.n (.a) (.n (.a) (.n (.a) (.n (.a) (.n (.n (.a) (.b (.s (gq5.S2)))) (.n (.a) (.n (.a) (.n (.a) (.n (.n (.a) (.b (.s (gq5.S3)))) (.a))))))))))))) (G := fun t g => gq5.F (fun y0 => g y0) t.1 t.2.1) (by kernel_rfl) gq5.hE Tryz.func5 (by kernel_rfl) rfl (Nat.le_refl _) (fun t => HintOk.n1 (by kernel_rfl) (gq5.hok gq5.hE)) (fun t g => gq5.F_nat g (fun y0 => some y0) _ _) (fun t => by kernel_rfl)
end
end Go.Proofs.YtaanadbpnmcbcaaGreatDoorA
