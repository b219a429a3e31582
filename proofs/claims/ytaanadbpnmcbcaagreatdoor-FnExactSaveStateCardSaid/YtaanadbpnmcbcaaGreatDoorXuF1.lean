/-
  Functions of the program, and that the small machine's runs are these. No condition.
  Printed by wip/amp/main.py (a session's own program) out of Lean's print of the program; Lean's kernel checks it.
-/
import Derived.Test.YtaanadbpnmcbcaaGreatDoorXuF0
namespace Go.Proofs.YtaanadbpnmcbcaaGreatDoorA
open Go
noncomputable section
set_option linter.unusedVariables false
set_option linter.unusedSimpArgs false
set_option maxRecDepth 100000
def gq125.j1 {R : Type} (kkn : Bool → Int → Int → List (El kFile) → ByteArray → ByteArray → Int → Int → Int → List (El kFile) → Option R) (put : Bool) (i : Int) (d : Int) (d1 : List (El kFile)) (f : ByteArray) (f1 : ByteArray) (f2 : Int) (i1 : Int) (out : Int) (l : List (El kFile)) : Option R :=
 cond (!put) (
  grd (gIx i (List.length d1)) <|
  cond (!(sLt (rdE kFile d1 (Int.toNat i)).1 f)) (
   grd (gRm (((List.length l) + (List.length [(f, (f1, f2))])) * 40)) <|
   kkn true i d d1 f f1 f2 i1 out (l ++ [(f, (f1, f2))])) (kkn put i d d1 f f1 f2 i1 out l)) (kkn put i d d1 f f1 f2 i1 out l)
theorem gq125.j1_nat {R S : Type} (g : R → Option S) (kkn : Bool → Int → Int → List (El kFile) → ByteArray → ByteArray → Int → Int → Int → List (El kFile) → Option R) (put i d d1 f f1 f2 i1 out l) : gq125.j1 (fun y0 y1 y2 y3 y4 y5 y6 y7 y8 y9 => (kkn y0 y1 y2 y3 y4 y5 y6 y7 y8 y9).bind g) put i d d1 f f1 f2 i1 out l = (gq125.j1 kkn put i d d1 f f1 f2 i1 out l).bind g := by
 simp only [gq125.j1, grd_bind, cnd_bind, bnd_bind, non_bind]
def gq125.l2 {R : Type} (kke0 : Bool → ByteArray → ByteArray → Int → Int → Int → List (El kFile) → Option R) : Nat → Bool → Int → Int → List (El kFile) → ByteArray → ByteArray → Int → Int → Int → List (El kFile) → Option R
 | 0, _, _, _, _, _, _, _, _, _, _ => none
 | n + 1, put, i, d, d1, f, f1, f2, i1, out, l =>
  cond (decide (i < (List.length d1 : Int))) (
   gq125.j1 (fun put1 i2 d2 d3 f3 f4 f5 i3 out1 l1 =>
    grd (gIx i2 (List.length d3)) <|
    cond (!(sEq (rdE kFile d3 (Int.toNat i2)).1 f3)) (
     grd (gIx i2 (List.length d3)) <|
     grd (gRm (((List.length l1) + (List.length [rdE kFile d3 (Int.toNat i2)])) * 40)) <|
     gq125.l2 kke0 n put1 (IntKind.wrap .i64 (i2 + (1 : Int))) d2 d3 f3 f4 f5 i3 out1 (l1 ++ [rdE kFile d3 (Int.toNat i2)])) (gq125.l2 kke0 n put1 (IntKind.wrap .i64 (i2 + (1 : Int))) d2 d3 f3 f4 f5 i3 out1 l1)) put i d d1 f f1 f2 i1 out l) (kke0 put f f1 f2 i1 out l)
theorem gq125.l2_nat {R S : Type} (g : R → Option S) (kke0 : Bool → ByteArray → ByteArray → Int → Int → Int → List (El kFile) → Option R) : ∀ n put i d d1 f f1 f2 i1 out l, gq125.l2 (fun y0 y1 y2 y3 y4 y5 y6 => (kke0 y0 y1 y2 y3 y4 y5 y6).bind g) n put i d d1 f f1 f2 i1 out l = (gq125.l2 kke0 n put i d d1 f f1 f2 i1 out l).bind g := by
 intro n
 induction n with
 | zero => intros; rfl
 | succ n ih => intros; simp only [gq125.l2, grd_bind, cnd_bind, bnd_bind, non_bind, ← gq125.j1_nat, ih]
def gq125.F {R : Type} (kk : Int → List (El kFile) → Option R) (d_Room : Int) (d_Files : List (El kFile)) (f_Name : ByteArray) (f_Data : ByteArray) (f_Sure : Int) : Option R :=
 gq125.l2 (fun put f f1 f2 i out l =>
  cond (!put) (
   grd (gRm (((List.length l) + (List.length [(f, (f1, f2))])) * 40)) <|
   kk out (l ++ [(f, (f1, f2))])) (kk out l)) fuel false (0 : Int) d_Room d_Files f_Name f_Data f_Sure (0 : Int) d_Room ([] : List (El kFile))
theorem gq125.F_nat {R S : Type} (g : R → Option S) (kk : Int → List (El kFile) → Option R) (d_Room d_Files f_Name f_Data f_Sure) : gq125.F (fun y0 y1 => (kk y0 y1).bind g) d_Room d_Files f_Name f_Data f_Sure = (gq125.F kk d_Room d_Files f_Name f_Data f_Sure).bind g := by
 simp only [gq125.F, grd_bind, cnd_bind, bnd_bind, non_bind, ← gq125.l2_nat]
def gq125 (d_Room : Int) (d_Files : List (El kFile)) (f_Name : ByteArray) (f_Data : ByteArray) (f_Sure : Int) : Option (Int × List (El kFile)) := gq125.F (fun y0 y1 => some (y0, y1)) d_Room d_Files f_Name f_Data f_Sure
def gq125.out : (Int × List (El kFile)) → CRes := fun a => ⟨encL SV.enc [.agg [.int .i64, .own [] kFile true]] ((a.1, a.2, ()), ()), [encL SC.enc [] (), encL SC.enc [] ()]⟩
def gq125.ps : List PS := [.val [none, some (kFile, false)], .val [none, none, none]]
def gq125.sA : List SA := [.v (.agg [.int .i64, .slv [] kFile]), .v (.agg [.str, .str, .int .i64])]
def gq125.fi : FI := FIs gq125.sA (Int × List (El kFile)) (fun t => gq125 t.1.1 t.1.2.1 t.2.1.1 t.2.1.2.1 t.2.1.2.2.1) gq125.out gq125.ps
def gq125.E : Env := ⟨tt, lkF [], 66, 0, [], []⟩
def gq125.sh1 : SK := ⟨[.v (.one (.bptr 0 0)), .v (.one (.bptr 1 0)), .v (.one (.bptr 2 0)), .v (.one (.bptr 3 0)), .v (.one (.bool)), .v (.one (.int .i64))], [.box [.int .i64, .slv [1] kFile], .box [.str, .str, .int .i64], .box [.int .i64, .nil], .box [.int .i64, .slo 4], .arr kFile [] true]⟩
def gq125.sh1n : SK := ⟨[.v (.one (.bptr 0 0)), .v (.one (.bptr 1 0)), .v (.one (.bptr 2 0)), .v (.one (.bptr 3 0)), .v (.one (.bool)), .v (.one (.int .i64))], [.box [.int .i64, .slv [1] kFile], .box [.str, .str, .int .i64], .box [.int .i64, .nil], .box [.int .i64, .slo 4], .arr kFile [] true]⟩
def gq125.ko1 : Ex → List CastAt × List Nat
 | .nrm => ([], [2, 3, 4, 5, 6, 7])
 | .ret => ([], [])
 | .ext i => ([], [])
def gq125.G1 (R : Type) (t : gq125.sh1.T) (K : Ex → Kp → Option R) : Option R := gq125.j1 (fun y0 y1 y2 y3 y4 y5 y6 y7 y8 y9 => K .nrm (SK.enc gq125.sh1n (((), (), (), (), y0, y1, ()), ((y2, y3, ()), (y4, y5, y6, ()), (y7, (), ()), (y8, (), ()), y9, ())))) t.1.2.2.2.2.1 t.1.2.2.2.2.2.1 t.2.1.1 t.2.1.2.1 t.2.2.1.1 t.2.2.1.2.1 t.2.2.1.2.2.1 t.2.2.2.1.1 t.2.2.2.2.1.1 t.2.2.2.2.2.1
def gq125.S1 : Sum := ⟨([], [2, 3, 4, 5, 6, 7]), sumF gq125.sh1 (gq125.G1), gq125.ko1⟩
theorem gq125.ok1 (hE : EOk Tryz.prog (gq125.E)) : SumOk Tryz.prog gq125.E (cL (cB (cL (cR (cB (cB (cR (cL (cR (cR (cR (bodyOf Tryz.f125)))))))))))) (gq125.S1) := by
 have hh : HintOk Tryz.prog gq125.E (cL (cB (cL (cR (cB (cB (cR (cL (cR (cR (cR (bodyOf Tryz.f125)))))))))))) (.a) := HintOk.n1 (Q := True) (by kernel_rfl) trivial
 exact sumS (kin := ([], [2, 3, 4, 5, 6, 7])) (kout := gq125.ko1) (sh := gq125.sh1) (F := gq125.G1) (ops_ok (hE.gv _)) (by kernel_rfl) hh (fun R t K => by kernel_rfl)
def gq125.sh2 : SK := ⟨[.v (.one (.bptr 0 0)), .v (.one (.bptr 1 0)), .v (.one (.bptr 2 0)), .v (.one (.bptr 3 0)), .v (.one (.bool)), .v (.one (.int .i64))], [.box [.int .i64, .slv [1] kFile], .box [.str, .str, .int .i64], .box [.int .i64, .nil], .box [.int .i64, .slo 4], .arr kFile [] true]⟩
def gq125.sh2e0 : SK := ⟨[.v (.one (.bptr 0 0)), .v (.one (.bptr 1 0)), .v (.one (.bptr 2 0)), .v (.one (.bool))], [.box [.str, .str, .int .i64], .box [.int .i64, .nil], .box [.int .i64, .slo 3], .arr kFile [] true]⟩
def gq125.ko2 : Ex → List CastAt × List Nat
 | .nrm => ([], [])
 | .ret => ([], [])
 | .ext i => cond (Nat.beq i 0) ([], [3, 4, 5, 6]) ([], [])
def gq125.G2 (n : Nat) (R : Type) (t : gq125.sh2.T) (K : Ex → Kp → Option R) : Option R := gq125.l2 (fun y0 y1 y2 y3 y4 y5 y6 => K (.ext 0) (SK.enc gq125.sh2e0 (((), (), (), y0, ()), ((y1, y2, y3, ()), (y4, (), ()), (y5, (), ()), y6, ())))) n t.1.2.2.2.2.1 t.1.2.2.2.2.2.1 t.2.1.1 t.2.1.2.1 t.2.2.1.1 t.2.2.1.2.1 t.2.2.1.2.2.1 t.2.2.2.1.1 t.2.2.2.2.1.1 t.2.2.2.2.2.1
def gq125.S2 : Sum := ⟨([], [2, 3, 4, 5, 6, 7]), sumF gq125.sh2 (gq125.G2 fuel), gq125.ko2⟩
theorem gq125.ok2 (hE : EOk Tryz.prog (gq125.E)) : SumOk Tryz.prog gq125.E (cB (cR (cL (cR (cR (cR (bodyOf Tryz.f125))))))) (gq125.S2) := by
 have hh : HintOk Tryz.prog gq125.E (cB (cB (cR (cL (cR (cR (cR (bodyOf Tryz.f125)))))))) (.n (.a) (.n (.b (.n (.s (gq125.S1)) (.a))) (.a))) := HintOk.n1 (Q := (True) ∧ (((SumOk Tryz.prog gq125.E (cL (cB (cL (cR (cB (cB (cR (cL (cR (cR (cR (bodyOf Tryz.f125)))))))))))) (gq125.S1)) ∧ (True)) ∧ (True))) (by kernel_rfl) ⟨trivial, ⟨⟨(gq125.ok1 hE), trivial⟩, trivial⟩⟩
 have h := loopS (kin := ([], [2, 3, 4, 5, 6, 7])) (kout := gq125.ko2) (sh := gq125.sh2) (F := gq125.G2) (ops_ok (hE.gv _)) (by kernel_rfl) hh (fun _ _ _ => rfl) (fun n R t K => by kernel_rfl) fuel
 exact HintOk.n1 (c := (cB (cR (cL (cR (cR (cR (bodyOf Tryz.f125)))))))) (h := .s (gq125.S2)) (P := Tryz.prog) (E := gq125.E) (by kernel_rfl) h
theorem gq125.hok (hE : EOk Tryz.prog (gq125.E)) : HintOk Tryz.prog gq125.E (bodyOf Tryz.f125) (.n (.a) (.n (.a) (.n (.a) (.n (.n (.a) (.b (.s (gq125.S2)))) (.a))))) := HintOk.n1 (Q := (True) ∧ ((True) ∧ ((True) ∧ (((True) ∧ (SumOk Tryz.prog gq125.E (cB (cR (cL (cR (cR (cR (bodyOf Tryz.f125))))))) (gq125.S2))) ∧ (True))))) (by kernel_rfl) ⟨trivial, ⟨trivial, ⟨trivial, ⟨⟨trivial, (gq125.ok2 hE)⟩, trivial⟩⟩⟩⟩
theorem gq125.hE : EOk Tryz.prog (gq125.E) := EOk.of ttOk (trivial)
theorem gq125.fok : FOk Tryz.prog 125 gq125.fi :=
 fokS (E := gq125.E) (wy := ⟨[[none, some (kFile, true)]], [[], []], []⟩) (h := (fun gs => .n (.a) (.n (.a) (.n (.a) (.n (.n (.a) (.b (.s (gq125.S2)))) (.a)))))) (G := fun t g => gq125.F (fun y0 y1 => g (y0, y1)) t.1.1 t.1.2.1 t.2.1.1 t.2.1.2.1 t.2.1.2.2.1) (by kernel_rfl) gq125.hE Tryz.func125 (by kernel_rfl) rfl (Nat.le_refl _) (fun t => HintOk.n1 (by kernel_rfl) (gq125.hok gq125.hE)) (fun t g => gq125.F_nat g (fun y0 y1 => some (y0, y1)) _ _ _ _ _) (fun t => by kernel_rfl)
def gq122.j1 {R : Type} (kkn : Int → Bool → Int → List (El kFile) → Int → Int → ByteArray → ByteArray → ByteArray → List Int → Int → Option R) (k_ : Int) (d : Int) (d1 : List (El kFile)) (a : Int) (a1 : Int) (a2 : ByteArray) (a3 : ByteArray) (a4 : ByteArray) (a5 : List Int) (i : Int) : Option R :=
 cond (decide (k_ < (0 : Int))) (kkn k_ ((List.length d1 : Int) == (8 : Int)) d d1 a a1 a2 a3 a4 a5 i) (kkn k_ false d d1 a a1 a2 a3 a4 a5 i)
theorem gq122.j1_nat {R S : Type} (g : R → Option S) (kkn : Int → Bool → Int → List (El kFile) → Int → Int → ByteArray → ByteArray → ByteArray → List Int → Int → Option R) (k_ d d1 a a1 a2 a3 a4 a5 i) : gq122.j1 (fun y0 y1 y2 y3 y4 y5 y6 y7 y8 y9 y10 => (kkn y0 y1 y2 y3 y4 y5 y6 y7 y8 y9 y10).bind g) k_ d d1 a a1 a2 a3 a4 a5 i = (gq122.j1 kkn k_ d d1 a a1 a2 a3 a4 a5 i).bind g := by
 simp only [gq122.j1, grd_bind, cnd_bind, bnd_bind, non_bind]
def gq122.j2 {R : Type} (kkn : Int → List (El kFile) → Int → Int → ByteArray → ByteArray → ByteArray → List Int → Int → ByteArray → ByteArray → Int → Option R) (k_ : Int) (d : Int) (d1 : List (El kFile)) (a : Int) (a1 : Int) (a2 : ByteArray) (a3 : ByteArray) (a4 : ByteArray) (a5 : List Int) (i : Int) (f : ByteArray) (f1 : ByteArray) (f2 : Int) : Option R :=
 cond (decide (k_ ≥ (0 : Int))) (
  grd (gIx k_ (List.length d1)) <|
  kkn d d1 a a1 a2 a3 a4 a5 i (rdE kFile d1 (Int.toNat k_)).1 (rdE kFile d1 (Int.toNat k_)).2.1 (rdE kFile d1 (Int.toNat k_)).2.2) (kkn d d1 a a1 a2 a3 a4 a5 i f f1 f2)
theorem gq122.j2_nat {R S : Type} (g : R → Option S) (kkn : Int → List (El kFile) → Int → Int → ByteArray → ByteArray → ByteArray → List Int → Int → ByteArray → ByteArray → Int → Option R) (k_ d d1 a a1 a2 a3 a4 a5 i f f1 f2) : gq122.j2 (fun y0 y1 y2 y3 y4 y5 y6 y7 y8 y9 y10 y11 => (kkn y0 y1 y2 y3 y4 y5 y6 y7 y8 y9 y10 y11).bind g) k_ d d1 a a1 a2 a3 a4 a5 i f f1 f2 = (gq122.j2 kkn k_ d d1 a a1 a2 a3 a4 a5 i f f1 f2).bind g := by
 simp only [gq122.j2, grd_bind, cnd_bind, bnd_bind, non_bind]
def gq122.F {R : Type} (kk : Int → List (El kFile) → Int → Option R) (d_Room : Int) (d_Files : List (El kFile)) (a_Kind : Int) (a_N : Int) (a_Name : ByteArray) (a_To : ByteArray) (a_Data : ByteArray) (a_Keep : List Int) : Option R :=
 (gq124 d_Room d_Files a_Name).bind fun r =>
 (gq120 a_Name).bind fun r1 =>
 cond (!r1) (kk d_Room d_Files (1 : Int)) (
  gq122.j1 (fun k_ b d d1 a a1 a2 a3 a4 a5 i =>
   cond (b) (kk d d1 (7 : Int)) (
    (gq121 d d1).bind fun r2 =>
    cond (decide ((IntKind.wrap .i64 (r2 + (ByteArray.size a4 : Int))) > d)) (kk d d1 (7 : Int)) (
     gq122.j2 (fun d2 d3 a6 a7 a8 a9 a10 a11 i1 f f1 f2 =>
      grd (gCat f1 a10) <|
      (gq125 d2 d3 f (f1 ++ a10) f2).bind fun r3 =>
      kk r3.1 r3.2 (0 : Int)) k_ d d1 a a1 a2 a3 a4 a5 i a2 ByteArray.empty (0 : Int)))) r d_Room d_Files a_Kind a_N a_Name a_To a_Data a_Keep (0 : Int))
theorem gq122.F_nat {R S : Type} (g : R → Option S) (kk : Int → List (El kFile) → Int → Option R) (d_Room d_Files a_Kind a_N a_Name a_To a_Data a_Keep) : gq122.F (fun y0 y1 y2 => (kk y0 y1 y2).bind g) d_Room d_Files a_Kind a_N a_Name a_To a_Data a_Keep = (gq122.F kk d_Room d_Files a_Kind a_N a_Name a_To a_Data a_Keep).bind g := by
 simp only [gq122.F, grd_bind, cnd_bind, bnd_bind, non_bind, ← gq122.j1_nat, ← gq122.j2_nat]
def gq122 (d_Room : Int) (d_Files : List (El kFile)) (a_Kind : Int) (a_N : Int) (a_Name : ByteArray) (a_To : ByteArray) (a_Data : ByteArray) (a_Keep : List Int) : Option (Int × List (El kFile) × Int) := gq122.F (fun y0 y1 y2 => some (y0, y1, y2)) d_Room d_Files a_Kind a_N a_Name a_To a_Data a_Keep
def gq122.out : (Int × List (El kFile) × Int) → CRes := fun a => ⟨encL SV.enc [.agg [.int .i64, .slv [0, 1] kFile], .one (.int .i64)] ((a.1, a.2.1, ()), a.2.2, ()), [encL SC.enc [] (), encL SC.enc [] ()]⟩
def gq122.ps : List PS := [.val [none, some (kFile, false)], .val [none, none, none, none, none, some ((.int .i64), false)]]
def gq122.sA : List SA := [.v (.agg [.int .i64, .slv [] kFile]), .v (.agg [.int .i64, .int .i64, .str, .str, .str, .slv [] (.int .i64)])]
def gq122.fi : FI := FIs gq122.sA (Int × List (El kFile) × Int) (fun t => gq122 t.1.1 t.1.2.1 t.2.1.1 t.2.1.2.1 t.2.1.2.2.1 t.2.1.2.2.2.1 t.2.1.2.2.2.2.1 t.2.1.2.2.2.2.2.1) gq122.out gq122.ps
def gq122.E : Env := ⟨tt, lkF [(120, gq120.fi), (121, gq121.fi), (124, gq124.fi), (125, gq125.fi)], 58, 0, [], []⟩
def gq122.sh1 : SK := ⟨[.v (.one (.bptr 0 0)), .v (.one (.bptr 1 0)), .v (.one (.bptr 2 0)), .v (.one (.int .i64))], [.box [.int .i64, .slv [1] kFile], .box [.int .i64, .int .i64, .str, .str, .str, .slv [2] (.int .i64)], .box [.int .i64, .nil]]⟩
def gq122.sh1n : SK := ⟨[.v (.one (.bptr 0 0)), .v (.one (.bptr 1 0)), .v (.one (.bptr 2 0)), .v (.one (.int .i64)), .v (.one (.bool))], [.box [.int .i64, .slv [1] kFile], .box [.int .i64, .int .i64, .str, .str, .str, .slv [2] (.int .i64)], .box [.int .i64, .nil]]⟩
def gq122.ko1 : Ex → List CastAt × List Nat
 | .nrm => ([], [2, 3, 4, 6, 18])
 | .ret => ([], [])
 | .ext i => ([], [])
def gq122.G1 (R : Type) (t : gq122.sh1.T) (K : Ex → Kp → Option R) : Option R := gq122.j1 (fun y0 y1 y2 y3 y4 y5 y6 y7 y8 y9 y10 => K .nrm (SK.enc gq122.sh1n (((), (), (), y0, y1, ()), ((y2, y3, ()), (y4, y5, y6, y7, y8, y9, ()), (y10, (), ()), ())))) t.1.2.2.2.1 t.2.1.1 t.2.1.2.1 t.2.2.1.1 t.2.2.1.2.1 t.2.2.1.2.2.1 t.2.2.1.2.2.2.1 t.2.2.1.2.2.2.2.1 t.2.2.1.2.2.2.2.2.1 t.2.2.2.1.1
def gq122.S1 : Sum := ⟨([], [2, 3, 4, 6]), sumF gq122.sh1 (gq122.G1), gq122.ko1⟩
theorem gq122.ok1 (hE : EOk Tryz.prog (gq122.E)) : SumOk Tryz.prog gq122.E (cL (cR (cR (cB (cL (cR (cR (bodyOf Tryz.f122)))))))) (gq122.S1) := by
 have hh : HintOk Tryz.prog gq122.E (cL (cR (cR (cB (cL (cR (cR (bodyOf Tryz.f122)))))))) (.a) := HintOk.n1 (Q := True) (by kernel_rfl) trivial
 exact sumS (kin := ([], [2, 3, 4, 6])) (kout := gq122.ko1) (sh := gq122.sh1) (F := gq122.G1) (ops_ok (hE.gv _)) (by kernel_rfl) hh (fun R t K => by kernel_rfl)
def gq122.sh2 : SK := ⟨[.v (.one (.bptr 0 0)), .v (.one (.bptr 1 0)), .v (.one (.bptr 2 0)), .v (.one (.int .i64)), .v (.one (.bptr 3 0))], [.box [.int .i64, .slv [1] kFile], .box [.int .i64, .int .i64, .str, .str, .str, .slv [2] (.int .i64)], .box [.int .i64, .nil], .box [.str, .str, .int .i64]]⟩
def gq122.sh2n : SK := ⟨[.v (.one (.bptr 0 0)), .v (.one (.bptr 1 0)), .v (.one (.bptr 2 0)), .v (.one (.bptr 3 0))], [.box [.int .i64, .slv [1] kFile], .box [.int .i64, .int .i64, .str, .str, .str, .slv [2] (.int .i64)], .box [.int .i64, .nil], .box [.str, .str, .int .i64]]⟩
def gq122.ko2 : Ex → List CastAt × List Nat
 | .nrm => ([], [2, 3, 4, 7])
 | .ret => ([], [])
 | .ext i => ([], [])
def gq122.G2 (R : Type) (t : gq122.sh2.T) (K : Ex → Kp → Option R) : Option R := gq122.j2 (fun y0 y1 y2 y3 y4 y5 y6 y7 y8 y9 y10 y11 => K .nrm (SK.enc gq122.sh2n (((), (), (), (), ()), ((y0, y1, ()), (y2, y3, y4, y5, y6, y7, ()), (y8, (), ()), (y9, y10, y11, ()), ())))) t.1.2.2.2.1 t.2.1.1 t.2.1.2.1 t.2.2.1.1 t.2.2.1.2.1 t.2.2.1.2.2.1 t.2.2.1.2.2.2.1 t.2.2.1.2.2.2.2.1 t.2.2.1.2.2.2.2.2.1 t.2.2.2.1.1 t.2.2.2.2.1.1 t.2.2.2.2.1.2.1 t.2.2.2.2.1.2.2.1
def gq122.S2 : Sum := ⟨([], [2, 3, 4, 6, 7]), sumF gq122.sh2 (gq122.G2), gq122.ko2⟩
theorem gq122.ok2 (hE : EOk Tryz.prog (gq122.E)) : SumOk Tryz.prog gq122.E (cL (cR (cR (cR (cR (bodyOf Tryz.f122)))))) (gq122.S2) := by
 have hh : HintOk Tryz.prog gq122.E (cL (cR (cR (cR (cR (bodyOf Tryz.f122)))))) (.a) := HintOk.n1 (Q := True) (by kernel_rfl) trivial
 exact sumS (kin := ([], [2, 3, 4, 6, 7])) (kout := gq122.ko2) (sh := gq122.sh2) (F := gq122.G2) (ops_ok (hE.gv _)) (by kernel_rfl) hh (fun R t K => by kernel_rfl)
theorem gq122.hok (hE : EOk Tryz.prog (gq122.E)) : HintOk Tryz.prog gq122.E (bodyOf Tryz.f122) (.n (.a) (.n (.a) (.n (.b (.n (.a) (.n (.a) (.n (.s (gq122.S1)) (.a))))) (.n (.a) (.n (.s (gq122.S2)) (.a)))))) := HintOk.n1 (Q := (True) ∧ ((True) ∧ (((True) ∧ ((True) ∧ ((SumOk Tryz.prog gq122.E (cL (cR (cR (cB (cL (cR (cR (bodyOf Tryz.f122)))))))) (gq122.S1)) ∧ (True)))) ∧ ((True) ∧ ((SumOk Tryz.prog gq122.E (cL (cR (cR (cR (cR (bodyOf Tryz.f122)))))) (gq122.S2)) ∧ (True)))))) (by kernel_rfl) ⟨trivial, ⟨trivial, ⟨⟨trivial, ⟨trivial, ⟨(gq122.ok1 hE), trivial⟩⟩⟩, ⟨trivial, ⟨(gq122.ok2 hE), trivial⟩⟩⟩⟩⟩
theorem gq122.hE : EOk Tryz.prog (gq122.E) := EOk.of ttOk (⟨gq120.fok, ⟨gq121.fok, ⟨gq124.fok, ⟨gq125.fok, trivial⟩⟩⟩⟩)
theorem gq122.fok : FOk Tryz.prog 122 gq122.fi :=
 fokS (E := gq122.E) (wy := ⟨[[none, some (kFile, false)], [none]], [[], []], [⟨4, true, 1, .slv [0, 1] kFile⟩]⟩) (h := (fun gs => .n (.a) (.n (.a) (.n (.b (.n (.a) (.n (.a) (.n (.s (gq122.S1)) (.a))))) (.n (.a) (.n (.s (gq122.S2)) (.a))))))) (G := fun t g => gq122.F (fun y0 y1 y2 => g (y0, y1, y2)) t.1.1 t.1.2.1 t.2.1.1 t.2.1.2.1 t.2.1.2.2.1 t.2.1.2.2.2.1 t.2.1.2.2.2.2.1 t.2.1.2.2.2.2.2.1) (by kernel_rfl) gq122.hE Tryz.func122 (by kernel_rfl) rfl (Nat.le_refl _) (fun t => HintOk.n1 (by kernel_rfl) (gq122.hok gq122.hE)) (fun t g => gq122.F_nat g (fun y0 y1 y2 => some (y0, y1, y2)) _ _ _ _ _ _ _ _) (fun t => by kernel_rfl)
def gq123.j1 {R : Type} (kkn : List Int → Int → Nat → Int → Int → Int → List (El kFile) → Option R) (keep : List Int) (i : Int) (f : Nat) (n_ : Int) (i1 : Int) (out : Int) (f1 : List (El kFile)) : Option R :=
 cond (decide (i < (List.length keep : Int))) (
  grd (gIx i (List.length keep)) <|
  kkn keep i f (mx2 (rdE kFile f1 f).2.2 (mn2 (ByteArray.size (rdE kFile f1 f).2.1 : Int) (IntKind.wrap .i64 ((rdE kFile f1 f).2.2 + (mn2 (3000 : Int) (rdE (.int .i64 : Kd) keep (Int.toNat i))))))) i1 out f1) (kkn keep i f n_ i1 out f1)
theorem gq123.j1_nat {R S : Type} (g : R → Option S) (kkn : List Int → Int → Nat → Int → Int → Int → List (El kFile) → Option R) (keep i f n_ i1 out f1) : gq123.j1 (fun y0 y1 y2 y3 y4 y5 y6 => (kkn y0 y1 y2 y3 y4 y5 y6).bind g) keep i f n_ i1 out f1 = (gq123.j1 kkn keep i f n_ i1 out f1).bind g := by
 simp only [gq123.j1, grd_bind, cnd_bind, bnd_bind, non_bind]
def gq123.l2 {R : Type} (kke0 : Int → Int → List (El kFile) → Option R) : Nat → List Int → Int → Int → Int → List (El kFile) → Option R
 | 0, _, _, _, _, _ => none
 | n + 1, keep, i, i1, out, l =>
  cond (decide (i < (List.length l : Int))) (
   grd (gIx i (List.length l)) <|
   gq123.j1 (fun keep1 i2 f n_ i3 out1 f1 =>
    grd (gSl (0 : Int) n_ (ByteArray.size (rdE kFile f1 f).2.1)) <|
    gq123.l2 kke0 n keep1 (IntKind.wrap .i64 (i2 + (1 : Int))) i3 out1 (setE kFile (setE kFile f1 f ((rdE kFile f1 f).1, (cut (rdE kFile f1 f).2.1 (0 : Int) n_, (rdE kFile f1 f).2.2))) f ((rdE kFile (setE kFile f1 f ((rdE kFile f1 f).1, (cut (rdE kFile f1 f).2.1 (0 : Int) n_, (rdE kFile f1 f).2.2))) f).1, ((rdE kFile (setE kFile f1 f ((rdE kFile f1 f).1, (cut (rdE kFile f1 f).2.1 (0 : Int) n_, (rdE kFile f1 f).2.2))) f).2.1, n_)))) keep i (Int.toNat i) (rdE kFile l (Int.toNat i)).2.2 i1 out l) (kke0 i1 out l)
theorem gq123.l2_nat {R S : Type} (g : R → Option S) (kke0 : Int → Int → List (El kFile) → Option R) : ∀ n keep i i1 out l, gq123.l2 (fun y0 y1 y2 => (kke0 y0 y1 y2).bind g) n keep i i1 out l = (gq123.l2 kke0 n keep i i1 out l).bind g := by
 intro n
 induction n with
 | zero => intros; rfl
 | succ n ih => intros; simp only [gq123.l2, grd_bind, cnd_bind, bnd_bind, non_bind, ← gq123.j1_nat, ih]
def gq123.F {R : Type} (kk : Int → List (El kFile) → Option R) (d_Room : Int) (d_Files : List (El kFile)) (keep : List Int) : Option R :=
 (gq50 d_Room d_Files).bind fun r =>
 gq123.l2 (fun i out l => kk out l) fuel keep (0 : Int) (0 : Int) r.1 r.2
theorem gq123.F_nat {R S : Type} (g : R → Option S) (kk : Int → List (El kFile) → Option R) (d_Room d_Files keep) : gq123.F (fun y0 y1 => (kk y0 y1).bind g) d_Room d_Files keep = (gq123.F kk d_Room d_Files keep).bind g := by
 simp only [gq123.F, grd_bind, cnd_bind, bnd_bind, non_bind, ← gq123.l2_nat]
def gq123 (d_Room : Int) (d_Files : List (El kFile)) (keep : List Int) : Option (Int × List (El kFile)) := gq123.F (fun y0 y1 => some (y0, y1)) d_Room d_Files keep
def gq123.out : (Int × List (El kFile)) → CRes := fun a => ⟨encL SV.enc [.agg [.int .i64, .own [] kFile true]] ((a.1, a.2, ()), ()), [encL SC.enc [] (), encL SC.enc [] ()]⟩
def gq123.ps : List PS := [.val [none, some (kFile, false)], .val [some ((.int .i64), false)]]
def gq123.sA : List SA := [.v (.agg [.int .i64, .slv [] kFile]), .v (.one (.slv [] (.int .i64)))]
def gq123.fi : FI := FIs gq123.sA (Int × List (El kFile)) (fun t => gq123 t.1.1 t.1.2.1 t.2.1) gq123.out gq123.ps
def gq123.E : Env := ⟨tt, lkF [(50, gq50.fi)], 65, 0, [], []⟩
def gq123.sh1 : SK := ⟨[.v (.one (.slv [2] (.int .i64))), .v (.one (.bptr 0 0)), .v (.one (.bptr 1 0)), .v (.one (.int .i64)), .v (.one (.eptr 2 3 0)), .v (.one (.int .i64))], [.box [.int .i64, .nil], .box [.int .i64, .slo 2], .arr kFile [] true]⟩
def gq123.sh1n : SK := ⟨[.v (.one (.slv [2] (.int .i64))), .v (.one (.bptr 0 0)), .v (.one (.bptr 1 0)), .v (.one (.int .i64)), .v (.one (.eptr 2 3 0)), .v (.one (.int .i64))], [.box [.int .i64, .nil], .box [.int .i64, .slo 2], .arr kFile [] true]⟩
def gq123.ko1 : Ex → List CastAt × List Nat
 | .nrm => ([], [1, 4, 5, 6, 7, 8])
 | .ret => ([], [])
 | .ext i => ([], [])
def gq123.G1 (R : Type) (t : gq123.sh1.T) (K : Ex → Kp → Option R) : Option R := gq123.j1 (fun y0 y1 y2 y3 y4 y5 y6 => K .nrm (SK.enc gq123.sh1n ((y0, (), (), y1, y2, y3, ()), ((y4, (), ()), (y5, (), ()), y6, ())))) t.1.1 t.1.2.2.2.1 t.1.2.2.2.2.1 t.1.2.2.2.2.2.1 t.2.1.1 t.2.2.1.1 t.2.2.2.1
def gq123.S1 : Sum := ⟨([], [1, 4, 5, 6, 7, 8]), sumF gq123.sh1 (gq123.G1), gq123.ko1⟩
theorem gq123.ok1 (hE : EOk Tryz.prog (gq123.E)) : SumOk Tryz.prog gq123.E (cL (cR (cR (cB (cL (cR (cB (cB (cR (cL (cR (cR (bodyOf Tryz.f123))))))))))))) (gq123.S1) := by
 have hh : HintOk Tryz.prog gq123.E (cL (cR (cR (cB (cL (cR (cB (cB (cR (cL (cR (cR (bodyOf Tryz.f123))))))))))))) (.a) := HintOk.n1 (Q := True) (by kernel_rfl) trivial
 exact sumS (kin := ([], [1, 4, 5, 6, 7, 8])) (kout := gq123.ko1) (sh := gq123.sh1) (F := gq123.G1) (ops_ok (hE.gv _)) (by kernel_rfl) hh (fun R t K => by kernel_rfl)
def gq123.sh2 : SK := ⟨[.v (.one (.slv [2] (.int .i64))), .v (.one (.bptr 0 0)), .v (.one (.bptr 1 0)), .v (.one (.int .i64))], [.box [.int .i64, .nil], .box [.int .i64, .slo 2], .arr kFile [] true]⟩
def gq123.sh2e0 : SK := ⟨[.v (.one (.bptr 0 0)), .v (.one (.bptr 1 0))], [.box [.int .i64, .nil], .box [.int .i64, .slo 2], .arr kFile [] true]⟩
def gq123.ko2 : Ex → List CastAt × List Nat
 | .nrm => ([], [])
 | .ret => ([], [])
 | .ext i => cond (Nat.beq i 0) ([], [4, 5]) ([], [])
def gq123.G2 (n : Nat) (R : Type) (t : gq123.sh2.T) (K : Ex → Kp → Option R) : Option R := gq123.l2 (fun y0 y1 y2 => K (.ext 0) (SK.enc gq123.sh2e0 (((), (), ()), ((y0, (), ()), (y1, (), ()), y2, ())))) n t.1.1 t.1.2.2.2.1 t.2.1.1 t.2.2.1.1 t.2.2.2.1
def gq123.S2 : Sum := ⟨([], [1, 4, 5, 6]), sumF gq123.sh2 (gq123.G2 fuel), gq123.ko2⟩
theorem gq123.ok2 (hE : EOk Tryz.prog (gq123.E)) : SumOk Tryz.prog gq123.E (cB (cR (cL (cR (cR (bodyOf Tryz.f123)))))) (gq123.S2) := by
 have hh : HintOk Tryz.prog gq123.E (cB (cB (cR (cL (cR (cR (bodyOf Tryz.f123))))))) (.n (.a) (.n (.b (.n (.a) (.n (.a) (.n (.s (gq123.S1)) (.a))))) (.a))) := HintOk.n1 (Q := (True) ∧ (((True) ∧ ((True) ∧ ((SumOk Tryz.prog gq123.E (cL (cR (cR (cB (cL (cR (cB (cB (cR (cL (cR (cR (bodyOf Tryz.f123))))))))))))) (gq123.S1)) ∧ (True)))) ∧ (True))) (by kernel_rfl) ⟨trivial, ⟨⟨trivial, ⟨trivial, ⟨(gq123.ok1 hE), trivial⟩⟩⟩, trivial⟩⟩
 have h := loopS (kin := ([], [1, 4, 5, 6])) (kout := gq123.ko2) (sh := gq123.sh2) (F := gq123.G2) (ops_ok (hE.gv _)) (by kernel_rfl) hh (fun _ _ _ => rfl) (fun n R t K => by kernel_rfl) fuel
 exact HintOk.n1 (c := (cB (cR (cL (cR (cR (bodyOf Tryz.f123))))))) (h := .s (gq123.S2)) (P := Tryz.prog) (E := gq123.E) (by kernel_rfl) h
theorem gq123.hok (hE : EOk Tryz.prog (gq123.E)) : HintOk Tryz.prog gq123.E (bodyOf Tryz.f123) (.n (.a) (.n (.a) (.n (.n (.a) (.b (.s (gq123.S2)))) (.a)))) := HintOk.n1 (Q := (True) ∧ ((True) ∧ (((True) ∧ (SumOk Tryz.prog gq123.E (cB (cR (cL (cR (cR (bodyOf Tryz.f123)))))) (gq123.S2))) ∧ (True)))) (by kernel_rfl) ⟨trivial, ⟨trivial, ⟨⟨trivial, (gq123.ok2 hE)⟩, trivial⟩⟩⟩
theorem gq123.hE : EOk Tryz.prog (gq123.E) := EOk.of ttOk (⟨gq50.fok, trivial⟩)
theorem gq123.fok : FOk Tryz.prog 123 gq123.fi :=
 fokS (E := gq123.E) (wy := ⟨[[none, some (kFile, true)]], [[], []], []⟩) (h := (fun gs => .n (.a) (.n (.a) (.n (.n (.a) (.b (.s (gq123.S2)))) (.a))))) (G := fun t g => gq123.F (fun y0 y1 => g (y0, y1)) t.1.1 t.1.2.1 t.2.1) (by kernel_rfl) gq123.hE Tryz.func123 (by kernel_rfl) rfl (Nat.le_refl _) (fun t => HintOk.n1 (by kernel_rfl) (gq123.hok gq123.hE)) (fun t g => gq123.F_nat g (fun y0 y1 => some (y0, y1)) _ _ _) (fun t => by kernel_rfl)
def gq126.F {R : Type} (kk : Int → List (El kFile) → Option R) (d_Room : Int) (d_Files : List (El kFile)) (k_ : Int) : Option R :=
 grd (gSl (0 : Int) k_ (List.length d_Files)) <|
 grd (gRm (((List.length ([] : List (El kFile))) + (List.length (sub d_Files (0 : Int) k_))) * 40)) <|
 grd (gSl (IntKind.wrap .i64 (k_ + (1 : Int))) (List.length d_Files : Int) (List.length d_Files)) <|
 grd (gRm (((List.length (([] : List (El kFile)) ++ (sub d_Files (0 : Int) k_))) + (List.length (sub d_Files (IntKind.wrap .i64 (k_ + (1 : Int))) (List.length d_Files : Int)))) * 40)) <|
 kk d_Room ((([] : List (El kFile)) ++ (sub d_Files (0 : Int) k_)) ++ (sub d_Files (IntKind.wrap .i64 (k_ + (1 : Int))) (List.length d_Files : Int)))
theorem gq126.F_nat {R S : Type} (g : R → Option S) (kk : Int → List (El kFile) → Option R) (d_Room d_Files k_) : gq126.F (fun y0 y1 => (kk y0 y1).bind g) d_Room d_Files k_ = (gq126.F kk d_Room d_Files k_).bind g := by
 simp only [gq126.F, grd_bind, cnd_bind, bnd_bind, non_bind]
def gq126 (d_Room : Int) (d_Files : List (El kFile)) (k_ : Int) : Option (Int × List (El kFile)) := gq126.F (fun y0 y1 => some (y0, y1)) d_Room d_Files k_
def gq126.out : (Int × List (El kFile)) → CRes := fun a => ⟨encL SV.enc [.agg [.int .i64, .own [] kFile true]] ((a.1, a.2, ()), ()), [encL SC.enc [] (), encL SC.enc [] ()]⟩
def gq126.ps : List PS := [.val [none, some (kFile, false)], .val [none]]
def gq126.sA : List SA := [.v (.agg [.int .i64, .slv [] kFile]), .v (.one (.int .i64))]
def gq126.fi : FI := FIs gq126.sA (Int × List (El kFile)) (fun t => gq126 t.1.1 t.1.2.1 t.2.1) gq126.out gq126.ps
def gq126.E : Env := ⟨tt, lkF [], 20, 0, [], []⟩
theorem gq126.hok (hE : EOk Tryz.prog (gq126.E)) : HintOk Tryz.prog gq126.E (bodyOf Tryz.f126) (.a) := HintOk.n1 (Q := True) (by kernel_rfl) trivial
theorem gq126.hE : EOk Tryz.prog (gq126.E) := EOk.of ttOk (trivial)
theorem gq126.fok : FOk Tryz.prog 126 gq126.fi :=
 fokS (E := gq126.E) (wy := ⟨[[none, some (kFile, true)]], [[], []], []⟩) (h := (fun gs => .a)) (G := fun t g => gq126.F (fun y0 y1 => g (y0, y1)) t.1.1 t.1.2.1 t.2.1) (by kernel_rfl) gq126.hE Tryz.func126 (by kernel_rfl) rfl (Nat.le_refl _) (fun t => HintOk.n1 (by kernel_rfl) (gq126.hok gq126.hE)) (fun t g => gq126.F_nat g (fun y0 y1 => some (y0, y1)) _ _ _) (fun t => by kernel_rfl)
def gq74.j1 {R : Type} (kkn : Int → List (El kFile) → Int → Int → ByteArray → ByteArray → ByteArray → List Int → Int → Option R) (kkr : Int → Int → List (El kFile) → Option R) (d : Int) (d1 : List (El kFile)) (a : Int) (a1 : Int) (a2 : ByteArray) (a3 : ByteArray) (a4 : ByteArray) (a5 : List Int) (i : Int) : Option R :=
 cond (a == (1 : Int)) (
  (gq122 d d1 a a1 a2 a3 a4 a5).bind fun r =>
  kkr r.2.2 r.1 r.2.1) (
  cond (a == (5 : Int)) (
   (gq123 d d1 a5).bind fun r1 =>
   kkr (0 : Int) r1.1 r1.2) (
   cond (a == (2 : Int)) (kkn d d1 a a1 a2 a3 a4 a5 i) (
    cond (a == (3 : Int)) (kkn d d1 a a1 a2 a3 a4 a5 i) (
     cond (a == (4 : Int)) (kkn d d1 a a1 a2 a3 a4 a5 i) (cond (a == (6 : Int)) (kkn d d1 a a1 a2 a3 a4 a5 i) (kkr (3 : Int) d d1))))))
theorem gq74.j1_nat {R S : Type} (g : R → Option S) (kkn : Int → List (El kFile) → Int → Int → ByteArray → ByteArray → ByteArray → List Int → Int → Option R) (kkr : Int → Int → List (El kFile) → Option R) (d d1 a a1 a2 a3 a4 a5 i) : gq74.j1 (fun y0 y1 y2 y3 y4 y5 y6 y7 y8 => (kkn y0 y1 y2 y3 y4 y5 y6 y7 y8).bind g) (fun y0 y1 y2 => (kkr y0 y1 y2).bind g) d d1 a a1 a2 a3 a4 a5 i = (gq74.j1 kkn kkr d d1 a a1 a2 a3 a4 a5 i).bind g := by
 simp only [gq74.j1, grd_bind, cnd_bind, bnd_bind, non_bind]
def gq74.F {R : Type} (kk : Int → List (El kFile) → Int → Option R) (d_Room : Int) (d_Files : List (El kFile)) (a_Kind : Int) (a_N : Int) (a_Name : ByteArray) (a_To : ByteArray) (a_Data : ByteArray) (a_Keep : List Int) : Option R :=
 gq74.j1 (fun d d1 a a1 a2 a3 a4 a5 i =>
  (gq124 d d1 a2).bind fun r =>
  cond (decide (r < (0 : Int))) (kk d d1 (5 : Int)) (
   grd (gIx r (List.length d1)) <|
   cond (a == (2 : Int)) (
    (gq125 d d1 ((rdE kFile d1 (Int.toNat r)).1) ((rdE kFile d1 (Int.toNat r)).2.1) (ByteArray.size (rdE kFile d1 (Int.toNat r)).2.1 : Int)).bind fun r1 =>
    kk r1.1 r1.2 (0 : Int)) (
    cond (a == (4 : Int)) (
     (gq126 d d1 r).bind fun r2 =>
     kk r2.1 r2.2 (0 : Int)) (
     cond (a == (6 : Int)) (
      (gq59 a1 (0 : Int) (ByteArray.size (rdE kFile d1 (Int.toNat r)).2.1 : Int)).bind fun r3 =>
      cond (!r3) (kk d d1 (4 : Int)) (
       grd (gSl (0 : Int) a1 (ByteArray.size (rdE kFile d1 (Int.toNat r)).2.1)) <|
       (gq125 d d1 ((rdE kFile d1 (Int.toNat r)).1) (cut (rdE kFile d1 (Int.toNat r)).2.1 (0 : Int) a1) (mn2 (rdE kFile d1 (Int.toNat r)).2.2 a1)).bind fun r4 =>
       kk r4.1 r4.2 (0 : Int))) (
      (gq120 a3).bind fun r5 =>
      cond (!r5) (kk d d1 (1 : Int)) (
       (gq126 d d1 r).bind fun r6 =>
       (gq125 r6.1 r6.2 a3 ((rdE kFile d1 (Int.toNat r)).2.1) ((rdE kFile d1 (Int.toNat r)).2.2)).bind fun r7 =>
       kk r7.1 r7.2 (0 : Int))))))) (fun i1 i2 l => kk i2 l i1) d_Room d_Files a_Kind a_N a_Name a_To a_Data a_Keep (0 : Int)
theorem gq74.F_nat {R S : Type} (g : R → Option S) (kk : Int → List (El kFile) → Int → Option R) (d_Room d_Files a_Kind a_N a_Name a_To a_Data a_Keep) : gq74.F (fun y0 y1 y2 => (kk y0 y1 y2).bind g) d_Room d_Files a_Kind a_N a_Name a_To a_Data a_Keep = (gq74.F kk d_Room d_Files a_Kind a_N a_Name a_To a_Data a_Keep).bind g := by
 simp only [gq74.F, grd_bind, cnd_bind, bnd_bind, non_bind, ← gq74.j1_nat]
def gq74 (d_Room : Int) (d_Files : List (El kFile)) (a_Kind : Int) (a_N : Int) (a_Name : ByteArray) (a_To : ByteArray) (a_Data : ByteArray) (a_Keep : List Int) : Option (Int × List (El kFile) × Int) := gq74.F (fun y0 y1 y2 => some (y0, y1, y2)) d_Room d_Files a_Kind a_N a_Name a_To a_Data a_Keep
def gq74.out : (Int × List (El kFile) × Int) → CRes := fun a => ⟨encL SV.enc [.agg [.int .i64, .slv [0, 1] kFile], .one (.int .i64)] ((a.1, a.2.1, ()), a.2.2, ()), [encL SC.enc [] (), encL SC.enc [] ()]⟩
def gq74.ps : List PS := [.val [none, some (kFile, false)], .val [none, none, none, none, none, some ((.int .i64), false)]]
def gq74.sA : List SA := [.v (.agg [.int .i64, .slv [] kFile]), .v (.agg [.int .i64, .int .i64, .str, .str, .str, .slv [] (.int .i64)])]
def gq74.fi : FI := FIs gq74.sA (Int × List (El kFile) × Int) (fun t => gq74 t.1.1 t.1.2.1 t.2.1.1 t.2.1.2.1 t.2.1.2.2.1 t.2.1.2.2.2.1 t.2.1.2.2.2.2.1 t.2.1.2.2.2.2.2.1) gq74.out gq74.ps
def gq74.E : Env := ⟨tt, lkF [(59, gq59.fi), (120, gq120.fi), (122, gq122.fi), (123, gq123.fi), (124, gq124.fi), (125, gq125.fi), (126, gq126.fi)], 95, 0, [], []⟩
def gq74.sh1 : SK := ⟨[.v (.one (.bptr 0 0)), .v (.one (.bptr 1 0)), .v (.one (.bptr 2 0))], [.box [.int .i64, .slv [1] kFile], .box [.int .i64, .int .i64, .str, .str, .str, .slv [2] (.int .i64)], .box [.int .i64, .nil]]⟩
def gq74.sh1n : SK := ⟨[.v (.one (.bptr 0 0)), .v (.one (.bptr 1 0)), .v (.one (.bptr 2 0))], [.box [.int .i64, .slv [1] kFile], .box [.int .i64, .int .i64, .str, .str, .str, .slv [2] (.int .i64)], .box [.int .i64, .nil]]⟩
def gq74.sh1r : SK := ⟨[.v (.one (.bptr 0 0)), .v (.one (.int .i64))], [.box [.int .i64, .slv [0, 1] kFile]]⟩
def gq74.ko1 : Ex → List CastAt × List Nat
 | .nrm => ([], [2, 3, 4])
 | .ret => ([⟨4, true, 1, .slv [0, 1] kFile⟩], [4, 5])
 | .ext i => ([], [])
def gq74.G1 (R : Type) (t : gq74.sh1.T) (K : Ex → Kp → Option R) : Option R := gq74.j1 (fun y0 y1 y2 y3 y4 y5 y6 y7 y8 => K .nrm (SK.enc gq74.sh1n (((), (), (), ()), ((y0, y1, ()), (y2, y3, y4, y5, y6, y7, ()), (y8, (), ()), ())))) (fun y0 y1 y2 => K .ret (SK.enc gq74.sh1r (((), y0, ()), ((y1, y2, ()), ())))) t.2.1.1 t.2.1.2.1 t.2.2.1.1 t.2.2.1.2.1 t.2.2.1.2.2.1 t.2.2.1.2.2.2.1 t.2.2.1.2.2.2.2.1 t.2.2.1.2.2.2.2.2.1 t.2.2.2.1.1
def gq74.S1 : Sum := ⟨([], [2, 3, 4]), sumF gq74.sh1 (gq74.G1), gq74.ko1⟩
theorem gq74.ok1 (hE : EOk Tryz.prog (gq74.E)) : SumOk Tryz.prog gq74.E (cL (cR (bodyOf Tryz.f74))) (gq74.S1) := by
 have hh : HintOk Tryz.prog gq74.E (cL (cR (bodyOf Tryz.f74))) (.a) := HintOk.n1 (Q := True) (by kernel_rfl) trivial
 exact sumS (kin := ([], [2, 3, 4])) (kout := gq74.ko1) (sh := gq74.sh1) (F := gq74.G1) (ops_ok (hE.gv _)) (by kernel_rfl) hh (fun R t K => by kernel_rfl)
theorem gq74.hok (hE : EOk Tryz.prog (gq74.E)) : HintOk Tryz.prog gq74.E (bodyOf Tryz.f74) (.n (.a) (.n (.s (gq74.S1)) (.a))) := HintOk.n1 (Q := (True) ∧ ((SumOk Tryz.prog gq74.E (cL (cR (bodyOf Tryz.f74))) (gq74.S1)) ∧ (True))) (by kernel_rfl) ⟨trivial, ⟨(gq74.ok1 hE), trivial⟩⟩
theorem gq74.hE : EOk Tryz.prog (gq74.E) := EOk.of ttOk (⟨gq59.fok, ⟨gq120.fok, ⟨gq122.fok, ⟨gq123.fok, ⟨gq124.fok, ⟨gq125.fok, ⟨gq126.fok, trivial⟩⟩⟩⟩⟩⟩⟩)
theorem gq74.fok : FOk Tryz.prog 74 gq74.fi :=
 fokS (E := gq74.E) (wy := ⟨[[none, some (kFile, false)], [none]], [[], []], [⟨4, true, 1, .slv [0, 1] kFile⟩]⟩) (h := (fun gs => .n (.a) (.n (.s (gq74.S1)) (.a)))) (G := fun t g => gq74.F (fun y0 y1 y2 => g (y0, y1, y2)) t.1.1 t.1.2.1 t.2.1.1 t.2.1.2.1 t.2.1.2.2.1 t.2.1.2.2.2.1 t.2.1.2.2.2.2.1 t.2.1.2.2.2.2.2.1) (by kernel_rfl) gq74.hE Tryz.func74 (by kernel_rfl) rfl (Nat.le_refl _) (fun t => HintOk.n1 (by kernel_rfl) (gq74.hok gq74.hE)) (fun t g => gq74.F_nat g (fun y0 y1 y2 => some (y0, y1, y2)) _ _ _ _ _ _ _ _) (fun t => by kernel_rfl)
def gq61.l1 {R : Type} (kke0 : Int → Int → List (El kFile) → Option R) (kkr : Int → Int → List (El kFile) → Option R) : Nat → List (El kka9e) → Int → Int → List (El kFile) → Int → Int → List (El kFile) → Option R
 | 0, _, _, _, _, _, _, _ => none
 | n + 1, acts, i, d, d1, i1, x, x1 =>
  cond (decide (i < (List.length acts : Int))) (
   grd (gIx i (List.length acts)) <|
   (gq74 x x1 ((rdE kka9e acts (Int.toNat i)).1) ((rdE kka9e acts (Int.toNat i)).2.1) ((rdE kka9e acts (Int.toNat i)).2.2.1) ((rdE kka9e acts (Int.toNat i)).2.2.2.1) ((rdE kka9e acts (Int.toNat i)).2.2.2.2.1) ((rdE kka9e acts (Int.toNat i)).2.2.2.2.2)).bind fun r =>
   cond (r.2.2 != (0 : Int)) (kkr r.2.2 d d1) (gq61.l1 kke0 kkr n acts (IntKind.wrap .i64 (i + (1 : Int))) d d1 i1 r.1 r.2.1)) (kke0 i1 x x1)
theorem gq61.l1_nat {R S : Type} (g : R → Option S) (kke0 : Int → Int → List (El kFile) → Option R) (kkr : Int → Int → List (El kFile) → Option R) : ∀ n acts i d d1 i1 x x1, gq61.l1 (fun y0 y1 y2 => (kke0 y0 y1 y2).bind g) (fun y0 y1 y2 => (kkr y0 y1 y2).bind g) n acts i d d1 i1 x x1 = (gq61.l1 kke0 kkr n acts i d d1 i1 x x1).bind g := by
 intro n
 induction n with
 | zero => intros; rfl
 | succ n ih => intros; simp only [gq61.l1, grd_bind, cnd_bind, bnd_bind, non_bind, ih]
def gq61.F {R : Type} (kk : Int → List (El kFile) → Int → Option R) (d_Room : Int) (d_Files : List (El kFile)) (acts : List (El kka9e)) : Option R :=
 gq61.l1 (fun i x x1 => kk x x1 (0 : Int)) (fun i1 i2 l => kk i2 l i1) fuel acts (0 : Int) d_Room d_Files (0 : Int) d_Room d_Files
theorem gq61.F_nat {R S : Type} (g : R → Option S) (kk : Int → List (El kFile) → Int → Option R) (d_Room d_Files acts) : gq61.F (fun y0 y1 y2 => (kk y0 y1 y2).bind g) d_Room d_Files acts = (gq61.F kk d_Room d_Files acts).bind g := by
 simp only [gq61.F, grd_bind, cnd_bind, bnd_bind, non_bind, ← gq61.l1_nat]
def gq61 (d_Room : Int) (d_Files : List (El kFile)) (acts : List (El kka9e)) : Option (Int × List (El kFile) × Int) := gq61.F (fun y0 y1 y2 => some (y0, y1, y2)) d_Room d_Files acts
def gq61.out : (Int × List (El kFile) × Int) → CRes := fun a => ⟨encL SV.enc [.agg [.int .i64, .slv [0, 1] kFile], .one (.int .i64)] ((a.1, a.2.1, ()), a.2.2, ()), [encL SC.enc [] (), encL SC.enc [] ()]⟩
def gq61.ps : List PS := [.val [none, some (kFile, false)], .val [some (kka9e, false)]]
def gq61.sA : List SA := [.v (.agg [.int .i64, .slv [] kFile]), .v (.one (.slv [] kka9e))]
def gq61.fi : FI := FIs gq61.sA (Int × List (El kFile) × Int) (fun t => gq61 t.1.1 t.1.2.1 t.2.1) gq61.out gq61.ps
def gq61.E : Env := ⟨tt, lkF [(74, gq74.fi)], 32, 0, [], []⟩
def gq61.sh1 : SK := ⟨[.v (.one (.slv [2] kka9e)), .v (.one (.bptr 0 0)), .v (.one (.bptr 1 0)), .v (.one (.bptr 2 0)), .v (.one (.int .i64))], [.box [.int .i64, .slv [1] kFile], .box [.int .i64, .nil], .box [.int .i64, .slv [0, 1] kFile]]⟩
def gq61.sh1e0 : SK := ⟨[.v (.one (.bptr 0 0)), .v (.one (.bptr 1 0))], [.box [.int .i64, .nil], .box [.int .i64, .slv [0, 1] kFile]]⟩
def gq61.sh1r : SK := ⟨[.v (.one (.bptr 0 0)), .v (.one (.int .i64))], [.box [.int .i64, .slv [1] kFile]]⟩
def gq61.ko1 : Ex → List CastAt × List Nat
 | .nrm => ([], [])
 | .ret => ([], [4, 5])
 | .ext i => cond (Nat.beq i 0) ([], [4, 6]) ([], [])
def gq61.G1 (n : Nat) (R : Type) (t : gq61.sh1.T) (K : Ex → Kp → Option R) : Option R := gq61.l1 (fun y0 y1 y2 => K (.ext 0) (SK.enc gq61.sh1e0 (((), (), ()), ((y0, (), ()), (y1, y2, ()), ())))) (fun y0 y1 y2 => K .ret (SK.enc gq61.sh1r (((), y0, ()), ((y1, y2, ()), ())))) n t.1.1 t.1.2.2.2.2.1 t.2.1.1 t.2.1.2.1 t.2.2.1.1 t.2.2.2.1.1 t.2.2.2.1.2.1
def gq61.S1 : Sum := ⟨([⟨6, true, 1, .slv [0, 1] kFile⟩], [1, 2, 4, 6, 7]), sumF gq61.sh1 (gq61.G1 fuel), gq61.ko1⟩
theorem gq61.ok1 (hE : EOk Tryz.prog (gq61.E)) : SumOk Tryz.prog gq61.E (cB (cR (cL (cR (cR (bodyOf Tryz.f61)))))) (gq61.S1) := by
 have hh : HintOk Tryz.prog gq61.E (cB (cB (cR (cL (cR (cR (bodyOf Tryz.f61))))))) (.a) := HintOk.n1 (Q := True) (by kernel_rfl) trivial
 have h := loopS (kin := ([⟨6, true, 1, .slv [0, 1] kFile⟩], [1, 2, 4, 6, 7])) (kout := gq61.ko1) (sh := gq61.sh1) (F := gq61.G1) (ops_ok (hE.gv _)) (by kernel_rfl) hh (fun _ _ _ => rfl) (fun n R t K => by kernel_rfl) fuel
 exact HintOk.n1 (c := (cB (cR (cL (cR (cR (bodyOf Tryz.f61))))))) (h := .s (gq61.S1)) (P := Tryz.prog) (E := gq61.E) (by kernel_rfl) h
theorem gq61.hok (hE : EOk Tryz.prog (gq61.E)) : HintOk Tryz.prog gq61.E (bodyOf Tryz.f61) (.n (.a) (.n (.a) (.n (.n (.a) (.b (.s (gq61.S1)))) (.a)))) := HintOk.n1 (Q := (True) ∧ ((True) ∧ (((True) ∧ (SumOk Tryz.prog gq61.E (cB (cR (cL (cR (cR (bodyOf Tryz.f61)))))) (gq61.S1))) ∧ (True)))) (by kernel_rfl) ⟨trivial, ⟨trivial, ⟨⟨trivial, (gq61.ok1 hE)⟩, trivial⟩⟩⟩
theorem gq61.hE : EOk Tryz.prog (gq61.E) := EOk.of ttOk (⟨gq74.fok, trivial⟩)
theorem gq61.fok : FOk Tryz.prog 61 gq61.fi :=
 fokS (E := gq61.E) (wy := ⟨[[none, some (kFile, false)], [none]], [[], []], [⟨4, true, 1, .slv [0, 1] kFile⟩]⟩) (h := (fun gs => .n (.a) (.n (.a) (.n (.n (.a) (.b (.s (gq61.S1)))) (.a))))) (G := fun t g => gq61.F (fun y0 y1 y2 => g (y0, y1, y2)) t.1.1 t.1.2.1 t.2.1) (by kernel_rfl) gq61.hE Tryz.func61 (by kernel_rfl) rfl (Nat.le_refl _) (fun t => HintOk.n1 (by kernel_rfl) (gq61.hok gq61.hE)) (fun t g => gq61.F_nat g (fun y0 y1 y2 => some (y0, y1, y2)) _ _ _) (fun t => by kernel_rfl)
def gq111.F {R : Type} (kk : ByteArray → Option R) (n_ : Int) : Option R :=
 (gq133 n_).bind fun r =>
 (gq110 r).bind fun r1 =>
 kk (strL r1)
theorem gq111.F_nat {R S : Type} (g : R → Option S) (kk : ByteArray → Option R) (n_) : gq111.F (fun y0 => (kk y0).bind g) n_ = (gq111.F kk n_).bind g := by
 simp only [gq111.F, grd_bind, cnd_bind, bnd_bind, non_bind]
def gq111 (n_ : Int) : Option ByteArray := gq111.F (fun y0 => some y0) n_
def gq111.out : ByteArray → CRes := fun a => ⟨encL SV.enc [.one (.str)] (a, ()), [encL SC.enc [] ()]⟩
def gq111.ps : List PS := [.val [none]]
def gq111.sA : List SA := [.v (.one (.int .i64))]
def gq111.fi : FI := FIs gq111.sA (ByteArray) (fun t => gq111 t.1) gq111.out gq111.ps
def gq111.E : Env := ⟨tt, lkF [(110, gq110.fi), (133, gq133.fi)], 7, 0, [], []⟩
theorem gq111.hok (hE : EOk Tryz.prog (gq111.E)) : HintOk Tryz.prog gq111.E (bodyOf Tryz.f111) (.a) := HintOk.n1 (Q := True) (by kernel_rfl) trivial
theorem gq111.hE : EOk Tryz.prog (gq111.E) := EOk.of ttOk (⟨gq110.fok, ⟨gq133.fok, trivial⟩⟩)
theorem gq111.fok : FOk Tryz.prog 111 gq111.fi :=
 fokS (E := gq111.E) (wy := ⟨[[none]], [[]], []⟩) (h := (fun gs => .a)) (G := fun t g => gq111.F (fun y0 => g y0) t.1) (by kernel_rfl) gq111.hE Tryz.func111 (by kernel_rfl) rfl (Nat.le_refl _) (fun t => HintOk.n1 (by kernel_rfl) (gq111.hok gq111.hE)) (fun t g => gq111.F_nat g (fun y0 => some y0) _) (fun t => by kernel_rfl)
def gq62.j1 {R : Type} (kkn : ByteArray → Int → ByteArray → Int → List ByteArray → List ByteArray → Int → Option R) (frame : ByteArray) (n_ : Int) (text : ByteArray) (w : Int) (w1 : List ByteArray) (w2 : List ByteArray) (w3 : Int) : Option R :=
 cond ((ByteArray.size text : Int) == (0 : Int)) (
  (gq111 (IntKind.wrap .i64 (w + (List.length w1 : Int)))).bind fun r =>
  grd (gCat r frame) <|
  kkn (r ++ frame) n_ text w w1 w2 w3) (kkn frame n_ text w w1 w2 w3)
theorem gq62.j1_nat {R S : Type} (g : R → Option S) (kkn : ByteArray → Int → ByteArray → Int → List ByteArray → List ByteArray → Int → Option R) (frame n_ text w w1 w2 w3) : gq62.j1 (fun y0 y1 y2 y3 y4 y5 y6 => (kkn y0 y1 y2 y3 y4 y5 y6).bind g) frame n_ text w w1 w2 w3 = (gq62.j1 kkn frame n_ text w w1 w2 w3).bind g := by
 simp only [gq62.j1, grd_bind, cnd_bind, bnd_bind, non_bind]
def gq62.F {R : Type} (kk : List (El kka9e) → Option R) (d_Room : Int) (d_Files : List (El kFile)) (w_First : Int) (w_Records : List ByteArray) (w_Names : List ByteArray) (w_Torn : Int) (data : ByteArray) : Option R :=
 (gq110 (bytesL data)).bind fun r =>
 (gq95 d_Room d_Files).bind fun r1 =>
 cond ((List.length r1 : Int) == (0 : Int)) (
  (gq99 (1 : Int)).bind fun r2 =>
  (gq111 w_First).bind fun r3 =>
  grd (gCat r3 (strL r)) <|
  kk ([((1 : Int), ((0 : Int), (r2, (ByteArray.empty, (r3 ++ (strL r), [])))))])) (
  grd (gIx (IntKind.wrap .i64 ((List.length r1 : Int) - (1 : Int))) (List.length r1)) <|
  (gq96 d_Room d_Files (rdE (.int .i64 : Kd) r1 (Int.toNat (IntKind.wrap .i64 ((List.length r1 : Int) - (1 : Int)))))).bind fun r4 =>
  gq62.j1 (fun frame n_ text w w1 w2 w3 =>
   cond (decide ((IntKind.wrap .i64 ((ByteArray.size text : Int) + (ByteArray.size frame : Int))) ≤ (160 : Int))) (
    (gq99 n_).bind fun r5 =>
    kk ([((1 : Int), ((0 : Int), (r5, (ByteArray.empty, (frame, [])))))])) (
    (gq99 n_).bind fun r6 =>
    (gq99 (IntKind.wrap .i64 (n_ + (1 : Int)))).bind fun r7 =>
    (gq111 (IntKind.wrap .i64 (w + (List.length w1 : Int)))).bind fun r8 =>
    grd (gCat r8 frame) <|
    kk ([((2 : Int), ((0 : Int), (r6, (ByteArray.empty, (ByteArray.empty, []))))), ((1 : Int), ((0 : Int), (r7, (ByteArray.empty, (r8 ++ frame, [])))))]))) (strL r) (rdE (.int .i64 : Kd) r1 (Int.toNat (IntKind.wrap .i64 ((List.length r1 : Int) - (1 : Int))))) r4 w_First w_Records w_Names w_Torn)
theorem gq62.F_nat {R S : Type} (g : R → Option S) (kk : List (El kka9e) → Option R) (d_Room d_Files w_First w_Records w_Names w_Torn data) : gq62.F (fun y0 => (kk y0).bind g) d_Room d_Files w_First w_Records w_Names w_Torn data = (gq62.F kk d_Room d_Files w_First w_Records w_Names w_Torn data).bind g := by
 simp only [gq62.F, grd_bind, cnd_bind, bnd_bind, non_bind, ← gq62.j1_nat]
def gq62 (d_Room : Int) (d_Files : List (El kFile)) (w_First : Int) (w_Records : List ByteArray) (w_Names : List ByteArray) (w_Torn : Int) (data : ByteArray) : Option (List (El kka9e)) := gq62.F (fun y0 => some y0) d_Room d_Files w_First w_Records w_Names w_Torn data
def gq62.out : (List (El kka9e)) → CRes := fun a => ⟨encL SV.enc [.one (.own [] kka9e true)] (a, ()), [encL SC.enc [] (), encL SC.enc [] (), encL SC.enc [] ()]⟩
def gq62.ps : List PS := [.val [none, some (kFile, false)], .val [none, some (.str, false), some (.str, false), none], .val [none]]
def gq62.sA : List SA := [.v (.agg [.int .i64, .slv [] kFile]), .v (.agg [.int .i64, .slv [] .str, .slv [] .str, .int .i64]), .v (.one (.str))]
def gq62.fi : FI := FIs gq62.sA (List (El kka9e)) (fun t => gq62 t.1.1 t.1.2.1 t.2.1.1 t.2.1.2.1 t.2.1.2.2.1 t.2.1.2.2.2.1 t.2.2.1) gq62.out gq62.ps
def gq62.E : Env := ⟨tt, lkF [(95, gq95.fi), (96, gq96.fi), (99, gq99.fi), (110, gq110.fi), (111, gq111.fi)], 77, 0, [], []⟩
def gq62.sh1 : SK := ⟨[.v (.one (.bptr 0 0)), .v (.one (.str)), .v (.one (.int .i64)), .v (.one (.str))], [.box [.int .i64, .slv [2] .str, .slv [2] .str, .int .i64]]⟩
def gq62.sh1n : SK := ⟨[.v (.one (.bptr 0 0)), .v (.one (.str)), .v (.one (.int .i64)), .v (.one (.str))], [.box [.int .i64, .slv [2] .str, .slv [2] .str, .int .i64]]⟩
def gq62.ko1 : Ex → List CastAt × List Nat
 | .nrm => ([], [4, 7, 9, 10])
 | .ret => ([], [])
 | .ext i => ([], [])
def gq62.G1 (R : Type) (t : gq62.sh1.T) (K : Ex → Kp → Option R) : Option R := gq62.j1 (fun y0 y1 y2 y3 y4 y5 y6 => K .nrm (SK.enc gq62.sh1n (((), y0, y1, y2, ()), ((y3, y4, y5, y6, ()), ())))) t.1.2.1 t.1.2.2.1 t.1.2.2.2.1 t.2.1.1 t.2.1.2.1 t.2.1.2.2.1 t.2.1.2.2.2.1
def gq62.S1 : Sum := ⟨([], [4, 7, 9, 10]), sumF gq62.sh1 (gq62.G1), gq62.ko1⟩
theorem gq62.ok1 (hE : EOk Tryz.prog (gq62.E)) : SumOk Tryz.prog gq62.E (cL (cR (cR (cR (cR (cR (cR (bodyOf Tryz.f62)))))))) (gq62.S1) := by
 have hh : HintOk Tryz.prog gq62.E (cL (cR (cR (cR (cR (cR (cR (bodyOf Tryz.f62)))))))) (.a) := HintOk.n1 (Q := True) (by kernel_rfl) trivial
 exact sumS (kin := ([], [4, 7, 9, 10])) (kout := gq62.ko1) (sh := gq62.sh1) (F := gq62.G1) (ops_ok (hE.gv _)) (by kernel_rfl) hh (fun R t K => by kernel_rfl)
theorem gq62.hok (hE : EOk Tryz.prog (gq62.E)) : HintOk Tryz.prog gq62.E (bodyOf Tryz.f62) (.n (.a) (.n (.a) (.n (.a) (.n (.a) (.n (.a) (.n (.a) (.n (.s (gq62.S1)) (.a)))))))) := HintOk.n1 (Q := (True) ∧ ((True) ∧ ((True) ∧ ((True) ∧ ((True) ∧ ((True) ∧ ((SumOk Tryz.prog gq62.E (cL (cR (cR (cR (cR (cR (cR (bodyOf Tryz.f62)))))))) (gq62.S1)) ∧ (True)))))))) (by kernel_rfl) ⟨trivial, ⟨trivial, ⟨trivial, ⟨trivial, ⟨trivial, ⟨trivial, ⟨(gq62.ok1 hE), trivial⟩⟩⟩⟩⟩⟩⟩
theorem gq62.hE : EOk Tryz.prog (gq62.E) := EOk.of ttOk (⟨gq95.fok, ⟨gq96.fok, ⟨gq99.fok, ⟨gq110.fok, ⟨gq111.fok, trivial⟩⟩⟩⟩⟩)
theorem gq62.fok : FOk Tryz.prog 62 gq62.fi :=
 fokS (E := gq62.E) (wy := ⟨[[some (kka9e, true)]], [[], [], []], []⟩) (h := (fun gs => .n (.a) (.n (.a) (.n (.a) (.n (.a) (.n (.a) (.n (.a) (.n (.s (gq62.S1)) (.a))))))))) (G := fun t g => gq62.F (fun y0 => g y0) t.1.1 t.1.2.1 t.2.1.1 t.2.1.2.1 t.2.1.2.2.1 t.2.1.2.2.2.1 t.2.2.1) (by kernel_rfl) gq62.hE Tryz.func62 (by kernel_rfl) rfl (Nat.le_refl _) (fun t => HintOk.n1 (by kernel_rfl) (gq62.hok gq62.hE)) (fun t g => gq62.F_nat g (fun y0 => some y0) _ _ _ _ _ _ _) (fun t => by kernel_rfl)
def gq159.l1 {R : Type} (kke0 : List Int → Option R) (kkr : Bool → List Int → Option R) : Nat → ByteArray → Int → List Int → Option R
 | 0, _, _, _ => none
 | n + 1, data, i, out =>
  cond (decide (i < (ByteArray.size data : Int))) (
   grd (gIx i (ByteArray.size data)) <|
   (gq59 (IntKind.wrap .i64 (byteAt data i)) (0 : Int) (6 : Int)).bind fun r =>
   cond (!r) (kkr false ([] : List Int)) (
    cond (decide (i > (0 : Int))) (
     grd (gIx (IntKind.wrap .i64 (i - (1 : Int))) (ByteArray.size data)) <|
     grd (gIx i (ByteArray.size data)) <|
     cond (decide ((byteAt data (IntKind.wrap .i64 (i - (1 : Int)))) ≥ (byteAt data i))) (kkr false ([] : List Int)) (
      grd (gIx i (ByteArray.size data)) <|
      grd (gRm (((List.length out) + (List.length [IntKind.wrap .i64 (byteAt data i)])) * 8)) <|
      gq159.l1 kke0 kkr n data (IntKind.wrap .i64 (i + (1 : Int))) (out ++ [IntKind.wrap .i64 (byteAt data i)]))) (
     grd (gIx i (ByteArray.size data)) <|
     grd (gRm (((List.length out) + (List.length [IntKind.wrap .i64 (byteAt data i)])) * 8)) <|
     gq159.l1 kke0 kkr n data (IntKind.wrap .i64 (i + (1 : Int))) (out ++ [IntKind.wrap .i64 (byteAt data i)])))) (kke0 out)
theorem gq159.l1_nat {R S : Type} (g : R → Option S) (kke0 : List Int → Option R) (kkr : Bool → List Int → Option R) : ∀ n data i out, gq159.l1 (fun y0 => (kke0 y0).bind g) (fun y0 y1 => (kkr y0 y1).bind g) n data i out = (gq159.l1 kke0 kkr n data i out).bind g := by
 intro n
 induction n with
 | zero => intros; rfl
 | succ n ih => intros; simp only [gq159.l1, grd_bind, cnd_bind, bnd_bind, non_bind, ih]
def gq159.F {R : Type} (kk : List Int → Bool → Option R) (data : ByteArray) : Option R :=
 gq159.l1 (fun out => kk out (decide ((List.length out : Int) > (0 : Int)))) (fun b l => kk l b) fuel data (0 : Int) ([] : List Int)
theorem gq159.F_nat {R S : Type} (g : R → Option S) (kk : List Int → Bool → Option R) (data) : gq159.F (fun y0 y1 => (kk y0 y1).bind g) data = (gq159.F kk data).bind g := by
 simp only [gq159.F, grd_bind, cnd_bind, bnd_bind, non_bind, ← gq159.l1_nat]
def gq159 (data : ByteArray) : Option (List Int × Bool) := gq159.F (fun y0 y1 => some (y0, y1)) data
def gq159.out : (List Int × Bool) → CRes := fun a => ⟨encL SV.enc [.one (.own [] (.int .i64) true), .one (.bool)] (a.1, a.2, ()), [encL SC.enc [] ()]⟩
def gq159.ps : List PS := [.val [none]]
def gq159.sA : List SA := [.v (.one (.str))]
def gq159.fi : FI := FIs gq159.sA (List Int × Bool) (fun t => gq159 t.1) gq159.out gq159.ps
def gq159.E : Env := ⟨tt, lkF [(59, gq59.fi)], 45, 0, [], []⟩
def gq159.sh1 : SK := ⟨[.v (.one (.str)), .v (.one (.slo 0)), .v (.one (.int .i64))], [.arr (.int .i64) [] true]⟩
def gq159.sh1e0 : SK := ⟨[.v (.one (.slo 0))], [.arr (.int .i64) [] true]⟩
def gq159.sh1r : SK := ⟨[.v (.one (.slo 0)), .v (.one (.bool))], [.arr (.int .i64) [] true]⟩
def gq159.ko1 : Ex → List CastAt × List Nat
 | .nrm => ([], [])
 | .ret => ([], [2, 3])
 | .ext i => cond (Nat.beq i 0) ([], [4]) ([], [])
def gq159.G1 (n : Nat) (R : Type) (t : gq159.sh1.T) (K : Ex → Kp → Option R) : Option R := gq159.l1 (fun y0 => K (.ext 0) (SK.enc gq159.sh1e0 (((), ()), (y0, ())))) (fun y0 y1 => K .ret (SK.enc gq159.sh1r (((), y0, ()), (y1, ())))) n t.1.1 t.1.2.2.1 t.2.1
def gq159.S1 : Sum := ⟨([], [0, 4, 5]), sumF gq159.sh1 (gq159.G1 fuel), gq159.ko1⟩
theorem gq159.ok1 (hE : EOk Tryz.prog (gq159.E)) : SumOk Tryz.prog gq159.E (cB (cR (cL (cR (cR (bodyOf Tryz.f159)))))) (gq159.S1) := by
 have hh : HintOk Tryz.prog gq159.E (cB (cB (cR (cL (cR (cR (bodyOf Tryz.f159))))))) (.a) := HintOk.n1 (Q := True) (by kernel_rfl) trivial
 have h := loopS (kin := ([], [0, 4, 5])) (kout := gq159.ko1) (sh := gq159.sh1) (F := gq159.G1) (ops_ok (hE.gv _)) (by kernel_rfl) hh (fun _ _ _ => rfl) (fun n R t K => by kernel_rfl) fuel
 exact HintOk.n1 (c := (cB (cR (cL (cR (cR (bodyOf Tryz.f159))))))) (h := .s (gq159.S1)) (P := Tryz.prog) (E := gq159.E) (by kernel_rfl) h
theorem gq159.hok (hE : EOk Tryz.prog (gq159.E)) : HintOk Tryz.prog gq159.E (bodyOf Tryz.f159) (.n (.a) (.n (.a) (.n (.n (.a) (.b (.s (gq159.S1)))) (.a)))) := HintOk.n1 (Q := (True) ∧ ((True) ∧ (((True) ∧ (SumOk Tryz.prog gq159.E (cB (cR (cL (cR (cR (bodyOf Tryz.f159)))))) (gq159.S1))) ∧ (True)))) (by kernel_rfl) ⟨trivial, ⟨trivial, ⟨⟨trivial, (gq159.ok1 hE)⟩, trivial⟩⟩⟩
theorem gq159.hE : EOk Tryz.prog (gq159.E) := EOk.of ttOk (⟨gq59.fok, trivial⟩)
theorem gq159.fok : FOk Tryz.prog 159 gq159.fi :=
 fokS (E := gq159.E) (wy := ⟨[[some ((.int .i64), true)], [none]], [[]], []⟩) (h := (fun gs => .n (.a) (.n (.a) (.n (.n (.a) (.b (.s (gq159.S1)))) (.a))))) (G := fun t g => gq159.F (fun y0 y1 => g (y0, y1)) t.1) (by kernel_rfl) gq159.hE Tryz.func159 (by kernel_rfl) rfl (Nat.le_refl _) (fun t => HintOk.n1 (by kernel_rfl) (gq159.hok gq159.hE)) (fun t g => gq159.F_nat g (fun y0 y1 => some (y0, y1)) _) (fun t => by kernel_rfl)
def gq132.F {R : Type} (kk : Bool → Option R) (e_Term : Int) (e_Kind : Int) (e_Data : ByteArray) : Option R :=
 (gq59 e_Term (1 : Int) (1000000 : Int)).bind fun r =>
 cond (!r) (kk false) (
  cond (e_Kind == (0 : Int)) (kk (sEq e_Data ByteArray.empty)) (
   cond (e_Kind == (1 : Int)) (
    cond (decide ((ByteArray.size e_Data : Int) ≥ (1 : Int))) (kk (decide ((ByteArray.size e_Data : Int) ≤ (100 : Int)))) (kk false)) (
    cond (e_Kind == (2 : Int)) (
     (gq159 e_Data).bind fun r1 =>
     kk r1.2) (kk false))))
theorem gq132.F_nat {R S : Type} (g : R → Option S) (kk : Bool → Option R) (e_Term e_Kind e_Data) : gq132.F (fun y0 => (kk y0).bind g) e_Term e_Kind e_Data = (gq132.F kk e_Term e_Kind e_Data).bind g := by
 simp only [gq132.F, grd_bind, cnd_bind, bnd_bind, non_bind]
def gq132 (e_Term : Int) (e_Kind : Int) (e_Data : ByteArray) : Option Bool := gq132.F (fun y0 => some y0) e_Term e_Kind e_Data
def gq132.out : Bool → CRes := fun a => ⟨encL SV.enc [.one (.bool)] (a, ()), [encL SC.enc [] ()]⟩
def gq132.ps : List PS := [.val [none, none, none]]
def gq132.sA : List SA := [.v (.agg [.int .i64, .int .i64, .str])]
def gq132.fi : FI := FIs gq132.sA (Bool) (fun t => gq132 t.1.1 t.1.2.1 t.1.2.2.1) gq132.out gq132.ps
def gq132.E : Env := ⟨tt, lkF [(59, gq59.fi), (159, gq159.fi)], 37, 0, [], []⟩
theorem gq132.hok (hE : EOk Tryz.prog (gq132.E)) : HintOk Tryz.prog gq132.E (bodyOf Tryz.f132) (.a) := HintOk.n1 (Q := True) (by kernel_rfl) trivial
theorem gq132.hE : EOk Tryz.prog (gq132.E) := EOk.of ttOk (⟨gq59.fok, ⟨gq159.fok, trivial⟩⟩)
theorem gq132.fok : FOk Tryz.prog 132 gq132.fi :=
 fokS (E := gq132.E) (wy := ⟨[[none]], [[]], []⟩) (h := (fun gs => .a)) (G := fun t g => gq132.F (fun y0 => g y0) t.1.1 t.1.2.1 t.1.2.2.1) (by kernel_rfl) gq132.hE Tryz.func132 (by kernel_rfl) rfl (Nat.le_refl _) (fun t => HintOk.n1 (by kernel_rfl) (gq132.hok gq132.hE)) (fun t g => gq132.F_nat g (fun y0 => some y0) _ _ _) (fun t => by kernel_rfl)
def gq79.l1 {R : Type} (kke0 : Option R) (kkr : Bool → Option R) : Nat → Int → Int → Int → List (El kkb53) → Option R
 | 0, _, _, _, _ => none
 | n + 1, i, s, s1, s2 =>
  cond (decide (i < (List.length s2 : Int))) (
   grd (gIx i (List.length s2)) <|
   (gq132 ((rdE kkb53 s2 (Int.toNat i)).1) ((rdE kkb53 s2 (Int.toNat i)).2.1) ((rdE kkb53 s2 (Int.toNat i)).2.2)).bind fun r =>
   cond (!r) (kkr false) (
    grd (gIx i (List.length s2)) <|
    cond (decide ((rdE kkb53 s2 (Int.toNat i)).1 > s)) (kkr false) (
     cond (decide (i > (0 : Int))) (
      grd (gIx (IntKind.wrap .i64 (i - (1 : Int))) (List.length s2)) <|
      grd (gIx i (List.length s2)) <|
      cond (decide ((rdE kkb53 s2 (Int.toNat (IntKind.wrap .i64 (i - (1 : Int))))).1 > (rdE kkb53 s2 (Int.toNat i)).1)) (kkr false) (gq79.l1 kke0 kkr n (IntKind.wrap .i64 (i + (1 : Int))) s s1 s2)) (gq79.l1 kke0 kkr n (IntKind.wrap .i64 (i + (1 : Int))) s s1 s2)))) (kke0)
theorem gq79.l1_nat {R S : Type} (g : R → Option S) (kke0 : Option R) (kkr : Bool → Option R) : ∀ n i s s1 s2, gq79.l1 (kke0.bind g) (fun y0 => (kkr y0).bind g) n i s s1 s2 = (gq79.l1 kke0 kkr n i s s1 s2).bind g := by
 intro n
 induction n with
 | zero => intros; rfl
 | succ n ih => intros; simp only [gq79.l1, grd_bind, cnd_bind, bnd_bind, non_bind, ih]
def gq79.F {R : Type} (kk : Bool → Option R) (s_Term : Int) (s_Vote : Int) (s_Log : List (El kkb53)) : Option R :=
 (gq59 s_Term (0 : Int) (1000000 : Int)).bind fun r =>
 cond (!r) (kk false) (
  (gq59 s_Vote (-1 : Int) (6 : Int)).bind fun r1 =>
  cond (!r1) (kk false) (
   cond (decide ((List.length s_Log : Int) > (60 : Int))) (kk false) (gq79.l1 (kk true) (fun b => kk b) fuel (0 : Int) s_Term s_Vote s_Log)))
theorem gq79.F_nat {R S : Type} (g : R → Option S) (kk : Bool → Option R) (s_Term s_Vote s_Log) : gq79.F (fun y0 => (kk y0).bind g) s_Term s_Vote s_Log = (gq79.F kk s_Term s_Vote s_Log).bind g := by
 simp only [gq79.F, grd_bind, cnd_bind, bnd_bind, non_bind, ← gq79.l1_nat]
def gq79 (s_Term : Int) (s_Vote : Int) (s_Log : List (El kkb53)) : Option Bool := gq79.F (fun y0 => some y0) s_Term s_Vote s_Log
def gq79.out : Bool → CRes := fun a => ⟨encL SV.enc [.one (.bool)] (a, ()), [encL SC.enc [] ()]⟩
def gq79.ps : List PS := [.val [none, none, some (kkb53, false)]]
def gq79.sA : List SA := [.v (.agg [.int .i64, .int .i64, .slv [] kkb53])]
def gq79.fi : FI := FIs gq79.sA (Bool) (fun t => gq79 t.1.1 t.1.2.1 t.1.2.2.1) gq79.out gq79.ps
def gq79.E : Env := ⟨tt, lkF [(59, gq59.fi), (132, gq132.fi)], 65, 0, [], []⟩
def gq79.sh1 : SK := ⟨[.v (.one (.bptr 0 0)), .v (.one (.int .i64))], [.box [.int .i64, .int .i64, .slv [1] kkb53]]⟩
def gq79.sh1e0 : SK := ⟨[], []⟩
def gq79.sh1r : SK := ⟨[.v (.one (.bool))], []⟩
def gq79.ko1 : Ex → List CastAt × List Nat
 | .nrm => ([], [])
 | .ret => ([], [2])
 | .ext i => cond (Nat.beq i 0) ([], []) ([], [])
def gq79.G1 (n : Nat) (R : Type) (t : gq79.sh1.T) (K : Ex → Kp → Option R) : Option R := gq79.l1 (K (.ext 0) (SK.enc gq79.sh1e0 ((), ()))) (fun y0 => K .ret (SK.enc gq79.sh1r ((y0, ()), ()))) n t.1.2.1 t.2.1.1 t.2.1.2.1 t.2.1.2.2.1
def gq79.S1 : Sum := ⟨([], [1, 3]), sumF gq79.sh1 (gq79.G1 fuel), gq79.ko1⟩
theorem gq79.ok1 (hE : EOk Tryz.prog (gq79.E)) : SumOk Tryz.prog gq79.E (cB (cR (cL (cR (cR (bodyOf Tryz.f79)))))) (gq79.S1) := by
 have hh : HintOk Tryz.prog gq79.E (cB (cB (cR (cL (cR (cR (bodyOf Tryz.f79))))))) (.a) := HintOk.n1 (Q := True) (by kernel_rfl) trivial
 have h := loopS (kin := ([], [1, 3])) (kout := gq79.ko1) (sh := gq79.sh1) (F := gq79.G1) (ops_ok (hE.gv _)) (by kernel_rfl) hh (fun _ _ _ => rfl) (fun n R t K => by kernel_rfl) fuel
 exact HintOk.n1 (c := (cB (cR (cL (cR (cR (bodyOf Tryz.f79))))))) (h := .s (gq79.S1)) (P := Tryz.prog) (E := gq79.E) (by kernel_rfl) h
theorem gq79.hok (hE : EOk Tryz.prog (gq79.E)) : HintOk Tryz.prog gq79.E (bodyOf Tryz.f79) (.n (.a) (.n (.a) (.n (.n (.a) (.b (.s (gq79.S1)))) (.a)))) := HintOk.n1 (Q := (True) ∧ ((True) ∧ (((True) ∧ (SumOk Tryz.prog gq79.E (cB (cR (cL (cR (cR (bodyOf Tryz.f79)))))) (gq79.S1))) ∧ (True)))) (by kernel_rfl) ⟨trivial, ⟨trivial, ⟨⟨trivial, (gq79.ok1 hE)⟩, trivial⟩⟩⟩
theorem gq79.hE : EOk Tryz.prog (gq79.E) := EOk.of ttOk (⟨gq59.fok, ⟨gq132.fok, trivial⟩⟩)
theorem gq79.fok : FOk Tryz.prog 79 gq79.fi :=
 fokS (E := gq79.E) (wy := ⟨[[none]], [[]], []⟩) (h := (fun gs => .n (.a) (.n (.a) (.n (.n (.a) (.b (.s (gq79.S1)))) (.a))))) (G := fun t g => gq79.F (fun y0 => g y0) t.1.1 t.1.2.1 t.1.2.2.1) (by kernel_rfl) gq79.hE Tryz.func79 (by kernel_rfl) rfl (Nat.le_refl _) (fun t => HintOk.n1 (by kernel_rfl) (gq79.hok gq79.hE)) (fun t g => gq79.F_nat g (fun y0 => some y0) _ _ _) (fun t => by kernel_rfl)
def gq134.F {R : Type} (kk : List Int → Option R) (e_Term : Int) (e_Kind : Int) (e_Data : ByteArray) : Option R :=
 (gq133 e_Term).bind fun r =>
 grd (gRm (((List.length r) + (List.length [IntKind.wrap .u8 e_Kind, IntKind.wrap .u8 (ByteArray.size e_Data : Int)])) * 1)) <|
 grd (gRm (((List.length (r ++ [IntKind.wrap .u8 e_Kind, IntKind.wrap .u8 (ByteArray.size e_Data : Int)])) + (List.length (bytesL e_Data))) * 1)) <|
 kk ((r ++ [IntKind.wrap .u8 e_Kind, IntKind.wrap .u8 (ByteArray.size e_Data : Int)]) ++ (bytesL e_Data))
theorem gq134.F_nat {R S : Type} (g : R → Option S) (kk : List Int → Option R) (e_Term e_Kind e_Data) : gq134.F (fun y0 => (kk y0).bind g) e_Term e_Kind e_Data = (gq134.F kk e_Term e_Kind e_Data).bind g := by
 simp only [gq134.F, grd_bind, cnd_bind, bnd_bind, non_bind]
def gq134 (e_Term : Int) (e_Kind : Int) (e_Data : ByteArray) : Option (List Int) := gq134.F (fun y0 => some y0) e_Term e_Kind e_Data
def gq134.out : (List Int) → CRes := fun a => ⟨encL SV.enc [.one (.own [] (.int .u8) true)] (a, ()), [encL SC.enc [] ()]⟩
def gq134.ps : List PS := [.val [none, none, none]]
def gq134.sA : List SA := [.v (.agg [.int .i64, .int .i64, .str])]
def gq134.fi : FI := FIs gq134.sA (List Int) (fun t => gq134 t.1.1 t.1.2.1 t.1.2.2.1) gq134.out gq134.ps
def gq134.E : Env := ⟨tt, lkF [(133, gq133.fi)], 20, 0, [], []⟩
theorem gq134.hok (hE : EOk Tryz.prog (gq134.E)) : HintOk Tryz.prog gq134.E (bodyOf Tryz.f134) (.a) := HintOk.n1 (Q := True) (by kernel_rfl) trivial
theorem gq134.hE : EOk Tryz.prog (gq134.E) := EOk.of ttOk (⟨gq133.fok, trivial⟩)
theorem gq134.fok : FOk Tryz.prog 134 gq134.fi :=
 fokS (E := gq134.E) (wy := ⟨[[some ((.int .u8), true)]], [[]], []⟩) (h := (fun gs => .a)) (G := fun t g => gq134.F (fun y0 => g y0) t.1.1 t.1.2.1 t.1.2.2.1) (by kernel_rfl) gq134.hE Tryz.func134 (by kernel_rfl) rfl (Nat.le_refl _) (fun t => HintOk.n1 (by kernel_rfl) (gq134.hok gq134.hE)) (fun t g => gq134.F_nat g (fun y0 => some y0) _ _ _) (fun t => by kernel_rfl)
def gq80.j1 {R : Type} (kkn : Bool → Int → Int → List (El kkb53) → Int → Int → List (El kkb53) → List ByteArray → Option R) (was : Int) (was1 : Int) (was2 : List (El kkb53)) (now : Int) (now1 : Int) (now2 : List (El kkb53)) (out : List ByteArray) : Option R :=
 cond (was != now) (kkn true was was1 was2 now now1 now2 out) (kkn (was1 != now1) was was1 was2 now now1 now2 out)
theorem gq80.j1_nat {R S : Type} (g : R → Option S) (kkn : Bool → Int → Int → List (El kkb53) → Int → Int → List (El kkb53) → List ByteArray → Option R) (was was1 was2 now now1 now2 out) : gq80.j1 (fun y0 y1 y2 y3 y4 y5 y6 y7 => (kkn y0 y1 y2 y3 y4 y5 y6 y7).bind g) was was1 was2 now now1 now2 out = (gq80.j1 kkn was was1 was2 now now1 now2 out).bind g := by
 simp only [gq80.j1, grd_bind, cnd_bind, bnd_bind, non_bind]
def gq80.j2 {R : Type} (kkn : Int → Int → List (El kkb53) → Int → Int → List (El kkb53) → List ByteArray → Option R) (was : Int) (was1 : Int) (was2 : List (El kkb53)) (now : Int) (now1 : Int) (now2 : List (El kkb53)) (out : List ByteArray) : Option R :=
 gq80.j1 (fun b was3 was4 was5 now3 now4 now5 out1 =>
  cond (b) (
   (gq133 now3).bind fun r =>
   grd (gCat (⟨#[84]⟩ : ByteArray) (strL r)) <|
   grd (gCat ((⟨#[84]⟩ : ByteArray) ++ (strL r)) (strL [IntKind.wrap .u8 (IntKind.wrap .i64 (now4 + (1 : Int)))])) <|
   grd (gRm (((List.length out1) + (List.length ([((⟨#[84]⟩ : ByteArray) ++ (strL r)) ++ (strL [IntKind.wrap .u8 (IntKind.wrap .i64 (now4 + (1 : Int)))])]))) * 16)) <|
   kkn was3 was4 was5 now3 now4 now5 (out1 ++ ([((⟨#[84]⟩ : ByteArray) ++ (strL r)) ++ (strL [IntKind.wrap .u8 (IntKind.wrap .i64 (now4 + (1 : Int)))])]))) (kkn was3 was4 was5 now3 now4 now5 out1)) was was1 was2 now now1 now2 out
theorem gq80.j2_nat {R S : Type} (g : R → Option S) (kkn : Int → Int → List (El kkb53) → Int → Int → List (El kkb53) → List ByteArray → Option R) (was was1 was2 now now1 now2 out) : gq80.j2 (fun y0 y1 y2 y3 y4 y5 y6 => (kkn y0 y1 y2 y3 y4 y5 y6).bind g) was was1 was2 now now1 now2 out = (gq80.j2 kkn was was1 was2 now now1 now2 out).bind g := by
 simp only [gq80.j2, grd_bind, cnd_bind, bnd_bind, non_bind, ← gq80.j1_nat]
def gq80.l3 {R : Type} (kke0 : Int → Int → Int → List (El kkb53) → Int → Int → List (El kkb53) → List ByteArray → Option R) : Nat → Int → Int → Int → List (El kkb53) → Int → Int → List (El kkb53) → List ByteArray → Option R
 | 0, _, _, _, _, _, _, _, _ => none
 | n + 1, k_, was, was1, was2, now, now1, now2, out =>
  cond (decide (k_ < (List.length was2 : Int))) (
   cond (decide (k_ < (List.length now2 : Int))) (
    grd (gIx k_ (List.length was2)) <|
    grd (gIx k_ (List.length now2)) <|
    cond (((rdE kkb53 was2 (Int.toNat k_)).1 == (rdE kkb53 now2 (Int.toNat k_)).1) && (((rdE kkb53 was2 (Int.toNat k_)).2.1 == (rdE kkb53 now2 (Int.toNat k_)).2.1) && (sEq (rdE kkb53 was2 (Int.toNat k_)).2.2 (rdE kkb53 now2 (Int.toNat k_)).2.2))) (
     gq80.l3 kke0 n (IntKind.wrap .i64 (k_ + (1 : Int))) was was1 was2 now now1 now2 out) (kke0 k_ was was1 was2 now now1 now2 out)) (kke0 k_ was was1 was2 now now1 now2 out)) (kke0 k_ was was1 was2 now now1 now2 out)
theorem gq80.l3_nat {R S : Type} (g : R → Option S) (kke0 : Int → Int → Int → List (El kkb53) → Int → Int → List (El kkb53) → List ByteArray → Option R) : ∀ n k_ was was1 was2 now now1 now2 out, gq80.l3 (fun y0 y1 y2 y3 y4 y5 y6 y7 => (kke0 y0 y1 y2 y3 y4 y5 y6 y7).bind g) n k_ was was1 was2 now now1 now2 out = (gq80.l3 kke0 n k_ was was1 was2 now now1 now2 out).bind g := by
 intro n
 induction n with
 | zero => intros; rfl
 | succ n ih => intros; simp only [gq80.l3, grd_bind, cnd_bind, bnd_bind, non_bind, ih]
def gq80.j4 {R : Type} (kkn : Int → Int → Int → List (El kkb53) → List ByteArray → Option R) (k_ : Int) (was : Int) (was1 : Int) (was2 : List (El kkb53)) (now : Int) (now1 : Int) (now2 : List (El kkb53)) (out : List ByteArray) : Option R :=
 cond (decide (k_ < (List.length was2 : Int))) (
  (gq133 k_).bind fun r =>
  grd (gCat (⟨#[67]⟩ : ByteArray) (strL r)) <|
  grd (gRm (((List.length out) + (List.length ([(⟨#[67]⟩ : ByteArray) ++ (strL r)]))) * 16)) <|
  kkn k_ now now1 now2 (out ++ ([(⟨#[67]⟩ : ByteArray) ++ (strL r)]))) (kkn k_ now now1 now2 out)
theorem gq80.j4_nat {R S : Type} (g : R → Option S) (kkn : Int → Int → Int → List (El kkb53) → List ByteArray → Option R) (k_ was was1 was2 now now1 now2 out) : gq80.j4 (fun y0 y1 y2 y3 y4 => (kkn y0 y1 y2 y3 y4).bind g) k_ was was1 was2 now now1 now2 out = (gq80.j4 kkn k_ was was1 was2 now now1 now2 out).bind g := by
 simp only [gq80.j4, grd_bind, cnd_bind, bnd_bind, non_bind]
def gq80.l5 {R : Type} (kke2 : List ByteArray → Option R) : Nat → Int → Int → Int → List (El kkb53) → List ByteArray → Option R
 | 0, _, _, _, _, _ => none
 | n + 1, i, now, now1, now2, out =>
  cond (decide (i < (List.length now2 : Int))) (
   grd (gIx i (List.length now2)) <|
   (gq134 ((rdE kkb53 now2 (Int.toNat i)).1) ((rdE kkb53 now2 (Int.toNat i)).2.1) ((rdE kkb53 now2 (Int.toNat i)).2.2)).bind fun r =>
   grd (gCat (⟨#[69]⟩ : ByteArray) (strL r)) <|
   grd (gRm (((List.length out) + (List.length ([(⟨#[69]⟩ : ByteArray) ++ (strL r)]))) * 16)) <|
   gq80.l5 kke2 n (IntKind.wrap .i64 (i + (1 : Int))) now now1 now2 (out ++ ([(⟨#[69]⟩ : ByteArray) ++ (strL r)]))) (kke2 out)
theorem gq80.l5_nat {R S : Type} (g : R → Option S) (kke2 : List ByteArray → Option R) : ∀ n i now now1 now2 out, gq80.l5 (fun y0 => (kke2 y0).bind g) n i now now1 now2 out = (gq80.l5 kke2 n i now now1 now2 out).bind g := by
 intro n
 induction n with
 | zero => intros; rfl
 | succ n ih => intros; simp only [gq80.l5, grd_bind, cnd_bind, bnd_bind, non_bind, ih]
def gq80.F {R : Type} (kk : List ByteArray → Option R) (was_Term : Int) (was_Vote : Int) (was_Log : List (El kkb53)) (now_Term : Int) (now_Vote : Int) (now_Log : List (El kkb53)) : Option R :=
 gq80.j2 (fun was was1 was2 now now1 now2 out =>
  gq80.l3 (fun k_ was3 was4 was5 now3 now4 now5 out1 =>
   gq80.j4 (fun k_1 now6 now7 now8 out2 => gq80.l5 (fun out3 => kk out3) fuel k_1 now6 now7 now8 out2) k_ was3 was4 was5 now3 now4 now5 out1) fuel (0 : Int) was was1 was2 now now1 now2 out) was_Term was_Vote was_Log now_Term now_Vote now_Log ([] : List ByteArray)
theorem gq80.F_nat {R S : Type} (g : R → Option S) (kk : List ByteArray → Option R) (was_Term was_Vote was_Log now_Term now_Vote now_Log) : gq80.F (fun y0 => (kk y0).bind g) was_Term was_Vote was_Log now_Term now_Vote now_Log = (gq80.F kk was_Term was_Vote was_Log now_Term now_Vote now_Log).bind g := by
 simp only [gq80.F, grd_bind, cnd_bind, bnd_bind, non_bind, ← gq80.j2_nat, ← gq80.l3_nat, ← gq80.j4_nat, ← gq80.l5_nat]
def gq80 (was_Term : Int) (was_Vote : Int) (was_Log : List (El kkb53)) (now_Term : Int) (now_Vote : Int) (now_Log : List (El kkb53)) : Option (List ByteArray) := gq80.F (fun y0 => some y0) was_Term was_Vote was_Log now_Term now_Vote now_Log
def gq80.out : (List ByteArray) → CRes := fun a => ⟨encL SV.enc [.one (.own [] .str true)] (a, ()), [encL SC.enc [] (), encL SC.enc [] ()]⟩
def gq80.ps : List PS := [.val [none, none, some (kkb53, false)], .val [none, none, some (kkb53, false)]]
def gq80.sA : List SA := [.v (.agg [.int .i64, .int .i64, .slv [] kkb53]), .v (.agg [.int .i64, .int .i64, .slv [] kkb53])]
def gq80.fi : FI := FIs gq80.sA (List ByteArray) (fun t => gq80 t.1.1 t.1.2.1 t.1.2.2.1 t.2.1.1 t.2.1.2.1 t.2.1.2.2.1) gq80.out gq80.ps
def gq80.E : Env := ⟨tt, lkF [(133, gq133.fi), (134, gq134.fi)], 95, 0, [], []⟩
def gq80.sh1 : SK := ⟨[.v (.one (.bptr 0 0)), .v (.one (.bptr 1 0)), .v (.one (.slo 2))], [.box [.int .i64, .int .i64, .slv [1] kkb53], .box [.int .i64, .int .i64, .slv [2] kkb53], .arr .str [] true]⟩
def gq80.sh1n : SK := ⟨[.v (.one (.bptr 0 0)), .v (.one (.bptr 1 0)), .v (.one (.slo 2)), .v (.one (.bool))], [.box [.int .i64, .int .i64, .slv [1] kkb53], .box [.int .i64, .int .i64, .slv [2] kkb53], .arr .str [] true]⟩
def gq80.ko1 : Ex → List CastAt × List Nat
 | .nrm => ([], [2, 3, 5, 20])
 | .ret => ([], [])
 | .ext i => ([], [])
def gq80.G1 (R : Type) (t : gq80.sh1.T) (K : Ex → Kp → Option R) : Option R := gq80.j1 (fun y0 y1 y2 y3 y4 y5 y6 y7 => K .nrm (SK.enc gq80.sh1n (((), (), (), y0, ()), ((y1, y2, y3, ()), (y4, y5, y6, ()), y7, ())))) t.2.1.1 t.2.1.2.1 t.2.1.2.2.1 t.2.2.1.1 t.2.2.1.2.1 t.2.2.1.2.2.1 t.2.2.2.1
def gq80.S1 : Sum := ⟨([], [2, 3, 5]), sumF gq80.sh1 (gq80.G1), gq80.ko1⟩
theorem gq80.ok1 (hE : EOk Tryz.prog (gq80.E)) : SumOk Tryz.prog gq80.E (cL (cL (cR (cR (bodyOf Tryz.f80))))) (gq80.S1) := by
 have hh : HintOk Tryz.prog gq80.E (cL (cL (cR (cR (bodyOf Tryz.f80))))) (.a) := HintOk.n1 (Q := True) (by kernel_rfl) trivial
 exact sumS (kin := ([], [2, 3, 5])) (kout := gq80.ko1) (sh := gq80.sh1) (F := gq80.G1) (ops_ok (hE.gv _)) (by kernel_rfl) hh (fun R t K => by kernel_rfl)
def gq80.sh2 : SK := ⟨[.v (.one (.bptr 0 0)), .v (.one (.bptr 1 0)), .v (.one (.slo 2))], [.box [.int .i64, .int .i64, .slv [1] kkb53], .box [.int .i64, .int .i64, .slv [2] kkb53], .arr .str [] true]⟩
def gq80.sh2n : SK := ⟨[.v (.one (.bptr 0 0)), .v (.one (.bptr 1 0)), .v (.one (.slo 2))], [.box [.int .i64, .int .i64, .slv [1] kkb53], .box [.int .i64, .int .i64, .slv [2] kkb53], .arr .str [] true]⟩
def gq80.ko2 : Ex → List CastAt × List Nat
 | .nrm => ([], [2, 3, 5])
 | .ret => ([], [])
 | .ext i => ([], [])
def gq80.G2 (R : Type) (t : gq80.sh2.T) (K : Ex → Kp → Option R) : Option R := gq80.j2 (fun y0 y1 y2 y3 y4 y5 y6 => K .nrm (SK.enc gq80.sh2n (((), (), (), ()), ((y0, y1, y2, ()), (y3, y4, y5, ()), y6, ())))) t.2.1.1 t.2.1.2.1 t.2.1.2.2.1 t.2.2.1.1 t.2.2.1.2.1 t.2.2.1.2.2.1 t.2.2.2.1
def gq80.S2 : Sum := ⟨([], [2, 3, 5]), sumF gq80.sh2 (gq80.G2), gq80.ko2⟩
theorem gq80.ok2 (hE : EOk Tryz.prog (gq80.E)) : SumOk Tryz.prog gq80.E (cL (cR (cR (bodyOf Tryz.f80)))) (gq80.S2) := by
 have hh : HintOk Tryz.prog gq80.E (cL (cR (cR (bodyOf Tryz.f80)))) (.n (.s (gq80.S1)) (.a)) := HintOk.n1 (Q := (SumOk Tryz.prog gq80.E (cL (cL (cR (cR (bodyOf Tryz.f80))))) (gq80.S1)) ∧ (True)) (by kernel_rfl) ⟨(gq80.ok1 hE), trivial⟩
 exact sumS (kin := ([], [2, 3, 5])) (kout := gq80.ko2) (sh := gq80.sh2) (F := gq80.G2) (ops_ok (hE.gv _)) (by kernel_rfl) hh (fun R t K => by kernel_rfl)
def gq80.sh3 : SK := ⟨[.v (.one (.bptr 0 0)), .v (.one (.bptr 1 0)), .v (.one (.slo 2)), .v (.one (.int .i64))], [.box [.int .i64, .int .i64, .slv [1] kkb53], .box [.int .i64, .int .i64, .slv [2] kkb53], .arr .str [] true]⟩
def gq80.sh3e0 : SK := ⟨[.v (.one (.bptr 0 0)), .v (.one (.bptr 1 0)), .v (.one (.slo 2)), .v (.one (.int .i64))], [.box [.int .i64, .int .i64, .slv [1] kkb53], .box [.int .i64, .int .i64, .slv [2] kkb53], .arr .str [] true]⟩
def gq80.ko3 : Ex → List CastAt × List Nat
 | .nrm => ([], [])
 | .ret => ([], [])
 | .ext i => cond (Nat.beq i 0) ([], [2, 3, 5, 6]) ([], [])
def gq80.G3 (n : Nat) (R : Type) (t : gq80.sh3.T) (K : Ex → Kp → Option R) : Option R := gq80.l3 (fun y0 y1 y2 y3 y4 y5 y6 y7 => K (.ext 0) (SK.enc gq80.sh3e0 (((), (), (), y0, ()), ((y1, y2, y3, ()), (y4, y5, y6, ()), y7, ())))) n t.1.2.2.2.1 t.2.1.1 t.2.1.2.1 t.2.1.2.2.1 t.2.2.1.1 t.2.2.1.2.1 t.2.2.1.2.2.1 t.2.2.2.1
def gq80.S3 : Sum := ⟨([], [2, 3, 5, 6]), sumF gq80.sh3 (gq80.G3 fuel), gq80.ko3⟩
theorem gq80.ok3 (hE : EOk Tryz.prog (gq80.E)) : SumOk Tryz.prog gq80.E (cB (cL (cR (cR (cR (cR (bodyOf Tryz.f80))))))) (gq80.S3) := by
 have hh : HintOk Tryz.prog gq80.E (cB (cB (cL (cR (cR (cR (cR (bodyOf Tryz.f80)))))))) (.a) := HintOk.n1 (Q := True) (by kernel_rfl) trivial
 have h := loopS (kin := ([], [2, 3, 5, 6])) (kout := gq80.ko3) (sh := gq80.sh3) (F := gq80.G3) (ops_ok (hE.gv _)) (by kernel_rfl) hh (fun _ _ _ => rfl) (fun n R t K => by kernel_rfl) fuel
 exact HintOk.n1 (c := (cB (cL (cR (cR (cR (cR (bodyOf Tryz.f80)))))))) (h := .s (gq80.S3)) (P := Tryz.prog) (E := gq80.E) (by kernel_rfl) h
def gq80.sh4 : SK := ⟨[.v (.one (.bptr 0 0)), .v (.one (.bptr 1 0)), .v (.one (.slo 2)), .v (.one (.int .i64))], [.box [.int .i64, .int .i64, .slv [1] kkb53], .box [.int .i64, .int .i64, .slv [2] kkb53], .arr .str [] true]⟩
def gq80.sh4n : SK := ⟨[.v (.one (.bptr 0 0)), .v (.one (.slo 1)), .v (.one (.int .i64))], [.box [.int .i64, .int .i64, .slv [2] kkb53], .arr .str [] true]⟩
def gq80.ko4 : Ex → List CastAt × List Nat
 | .nrm => ([], [3, 5, 6])
 | .ret => ([], [])
 | .ext i => ([], [])
def gq80.G4 (R : Type) (t : gq80.sh4.T) (K : Ex → Kp → Option R) : Option R := gq80.j4 (fun y0 y1 y2 y3 y4 => K .nrm (SK.enc gq80.sh4n (((), (), y0, ()), ((y1, y2, y3, ()), y4, ())))) t.1.2.2.2.1 t.2.1.1 t.2.1.2.1 t.2.1.2.2.1 t.2.2.1.1 t.2.2.1.2.1 t.2.2.1.2.2.1 t.2.2.2.1
def gq80.S4 : Sum := ⟨([], [2, 3, 5, 6]), sumF gq80.sh4 (gq80.G4), gq80.ko4⟩
theorem gq80.ok4 (hE : EOk Tryz.prog (gq80.E)) : SumOk Tryz.prog gq80.E (cL (cR (cR (cR (cR (cR (bodyOf Tryz.f80))))))) (gq80.S4) := by
 have hh : HintOk Tryz.prog gq80.E (cL (cR (cR (cR (cR (cR (bodyOf Tryz.f80))))))) (.a) := HintOk.n1 (Q := True) (by kernel_rfl) trivial
 exact sumS (kin := ([], [2, 3, 5, 6])) (kout := gq80.ko4) (sh := gq80.sh4) (F := gq80.G4) (ops_ok (hE.gv _)) (by kernel_rfl) hh (fun R t K => by kernel_rfl)
def gq80.sh5 : SK := ⟨[.v (.one (.bptr 0 0)), .v (.one (.slo 1)), .v (.one (.int .i64))], [.box [.int .i64, .int .i64, .slv [2] kkb53], .arr .str [] true]⟩
def gq80.sh5e2 : SK := ⟨[.v (.one (.slo 0))], [.arr .str [] true]⟩
def gq80.ko5 : Ex → List CastAt × List Nat
 | .nrm => ([], [])
 | .ret => ([], [])
 | .ext i => cond (Nat.beq i 2) ([], [5]) ([], [])
def gq80.G5 (n : Nat) (R : Type) (t : gq80.sh5.T) (K : Ex → Kp → Option R) : Option R := gq80.l5 (fun y0 => K (.ext 2) (SK.enc gq80.sh5e2 (((), ()), (y0, ())))) n t.1.2.2.1 t.2.1.1 t.2.1.2.1 t.2.1.2.2.1 t.2.2.1
def gq80.S5 : Sum := ⟨([], [3, 5, 7]), sumF gq80.sh5 (gq80.G5 fuel), gq80.ko5⟩
theorem gq80.ok5 (hE : EOk Tryz.prog (gq80.E)) : SumOk Tryz.prog gq80.E (cB (cR (cL (cR (cR (cR (cR (cR (cR (bodyOf Tryz.f80)))))))))) (gq80.S5) := by
 have hh : HintOk Tryz.prog gq80.E (cB (cB (cR (cL (cR (cR (cR (cR (cR (cR (bodyOf Tryz.f80))))))))))) (.a) := HintOk.n1 (Q := True) (by kernel_rfl) trivial
 have h := loopS (kin := ([], [3, 5, 7])) (kout := gq80.ko5) (sh := gq80.sh5) (F := gq80.G5) (ops_ok (hE.gv _)) (by kernel_rfl) hh (fun _ _ _ => rfl) (fun n R t K => by kernel_rfl) fuel
 exact HintOk.n1 (c := (cB (cR (cL (cR (cR (cR (cR (cR (cR (bodyOf Tryz.f80))))))))))) (h := .s (gq80.S5)) (P := Tryz.prog) (E := gq80.E) (by kernel_rfl) h
theorem gq80.hok (hE : EOk Tryz.prog (gq80.E)) : HintOk Tryz.prog gq80.E (bodyOf Tryz.f80) (.n (.a) (.n (.a) (.n (.s (gq80.S2)) (.n (.a) (.n (.b (.s (gq80.S3))) (.n (.s (gq80.S4)) (.n (.n (.a) (.b (.s (gq80.S5)))) (.a)))))))) := HintOk.n1 (Q := (True) ∧ ((True) ∧ ((SumOk Tryz.prog gq80.E (cL (cR (cR (bodyOf Tryz.f80)))) (gq80.S2)) ∧ ((True) ∧ ((SumOk Tryz.prog gq80.E (cB (cL (cR (cR (cR (cR (bodyOf Tryz.f80))))))) (gq80.S3)) ∧ ((SumOk Tryz.prog gq80.E (cL (cR (cR (cR (cR (cR (bodyOf Tryz.f80))))))) (gq80.S4)) ∧ (((True) ∧ (SumOk Tryz.prog gq80.E (cB (cR (cL (cR (cR (cR (cR (cR (cR (bodyOf Tryz.f80)))))))))) (gq80.S5))) ∧ (True)))))))) (by kernel_rfl) ⟨trivial, ⟨trivial, ⟨(gq80.ok2 hE), ⟨trivial, ⟨(gq80.ok3 hE), ⟨(gq80.ok4 hE), ⟨⟨trivial, (gq80.ok5 hE)⟩, trivial⟩⟩⟩⟩⟩⟩⟩
theorem gq80.hE : EOk Tryz.prog (gq80.E) := EOk.of ttOk (⟨gq133.fok, ⟨gq134.fok, trivial⟩⟩)
theorem gq80.fok : FOk Tryz.prog 80 gq80.fi :=
 fokS (E := gq80.E) (wy := ⟨[[some (.str, true)]], [[], []], []⟩) (h := (fun gs => .n (.a) (.n (.a) (.n (.s (gq80.S2)) (.n (.a) (.n (.b (.s (gq80.S3))) (.n (.s (gq80.S4)) (.n (.n (.a) (.b (.s (gq80.S5)))) (.a))))))))) (G := fun t g => gq80.F (fun y0 => g y0) t.1.1 t.1.2.1 t.1.2.2.1 t.2.1.1 t.2.1.2.1 t.2.1.2.2.1) (by kernel_rfl) gq80.hE Tryz.func80 (by kernel_rfl) rfl (Nat.le_refl _) (fun t => HintOk.n1 (by kernel_rfl) (gq80.hok gq80.hE)) (fun t g => gq80.F_nat g (fun y0 => some y0) _ _ _ _ _ _) (fun t => by kernel_rfl)
def gq81.F {R : Type} (kk : Int → List (El kFile) → Option R) (d_Room : Int) (d_Files : List (El kFile)) : Option R :=
 (gq95 d_Room d_Files).bind fun r =>
 cond ((List.length r : Int) == (0 : Int)) (kk d_Room d_Files) (
  grd (gIx (IntKind.wrap .i64 ((List.length r : Int) - (1 : Int))) (List.length r)) <|
  (gq99 (rdE (.int .i64 : Kd) r (Int.toNat (IntKind.wrap .i64 ((List.length r : Int) - (1 : Int)))))).bind fun r1 =>
  (gq74 d_Room d_Files (2 : Int) (0 : Int) r1 ByteArray.empty ByteArray.empty []).bind fun r2 =>
  kk r2.1 r2.2.1)
theorem gq81.F_nat {R S : Type} (g : R → Option S) (kk : Int → List (El kFile) → Option R) (d_Room d_Files) : gq81.F (fun y0 y1 => (kk y0 y1).bind g) d_Room d_Files = (gq81.F kk d_Room d_Files).bind g := by
 simp only [gq81.F, grd_bind, cnd_bind, bnd_bind, non_bind]
def gq81 (d_Room : Int) (d_Files : List (El kFile)) : Option (Int × List (El kFile)) := gq81.F (fun y0 y1 => some (y0, y1)) d_Room d_Files
def gq81.out : (Int × List (El kFile)) → CRes := fun a => ⟨encL SV.enc [.agg [.int .i64, .slv [0, 1] kFile]] ((a.1, a.2, ()), ()), [encL SC.enc [] ()]⟩
def gq81.ps : List PS := [.val [none, some (kFile, false)]]
def gq81.sA : List SA := [.v (.agg [.int .i64, .slv [] kFile])]
def gq81.fi : FI := FIs gq81.sA (Int × List (El kFile)) (fun t => gq81 t.1.1 t.1.2.1) gq81.out gq81.ps
def gq81.E : Env := ⟨tt, lkF [(74, gq74.fi), (95, gq95.fi), (99, gq99.fi)], 26, 0, [], []⟩
theorem gq81.hok (hE : EOk Tryz.prog (gq81.E)) : HintOk Tryz.prog gq81.E (bodyOf Tryz.f81) (.a) := HintOk.n1 (Q := True) (by kernel_rfl) trivial
theorem gq81.hE : EOk Tryz.prog (gq81.E) := EOk.of ttOk (⟨gq74.fok, ⟨gq95.fok, ⟨gq99.fok, trivial⟩⟩⟩)
theorem gq81.fok : FOk Tryz.prog 81 gq81.fi :=
 fokS (E := gq81.E) (wy := ⟨[[none, some (kFile, false)]], [[]], [⟨2, true, 1, .slv [0, 1] kFile⟩]⟩) (h := (fun gs => .a)) (G := fun t g => gq81.F (fun y0 y1 => g (y0, y1)) t.1.1 t.1.2.1) (by kernel_rfl) gq81.hE Tryz.func81 (by kernel_rfl) rfl (Nat.le_refl _) (fun t => HintOk.n1 (by kernel_rfl) (gq81.hok gq81.hE)) (fun t g => gq81.F_nat g (fun y0 y1 => some (y0, y1)) _ _) (fun t => by kernel_rfl)
def gq34.l1 {R : Type} (kke0 : Int → List (El kFile) → Int → Option R) (kkr : Int → Int → Option R) : Nat → Int → Int → List (El kFile) → Int → List ByteArray → Option R
 | 0, _, _, _, _, _ => none
 | n + 1, i, d, d1, i1, list =>
  cond (decide (i < (List.length list : Int))) (
   grd (gIx i (List.length list)) <|
   (gq60 d d1 (rdE (.str : Kd) list (Int.toNat i))).bind fun r =>
   cond (r.2.2.2.2 != (0 : Int)) (kkr r.2.2.2.2 (0 : Int)) (
    grd (gIx i (List.length list)) <|
    (gq62 d d1 r.1 r.2.1 r.2.2.1 r.2.2.2.1 (rdE (.str : Kd) list (Int.toNat i))).bind fun r1 =>
    (gq61 d d1 r1).bind fun r2 =>
    cond (r2.2.2 != (0 : Int)) (kkr r2.2.2 (0 : Int)) (gq34.l1 kke0 kkr n (IntKind.wrap .i64 (i + (1 : Int))) r2.1 r2.2.1 i1 list))) (kke0 d d1 i1)
theorem gq34.l1_nat {R S : Type} (g : R → Option S) (kke0 : Int → List (El kFile) → Int → Option R) (kkr : Int → Int → Option R) : ∀ n i d d1 i1 list, gq34.l1 (fun y0 y1 y2 => (kke0 y0 y1 y2).bind g) (fun y0 y1 => (kkr y0 y1).bind g) n i d d1 i1 list = (gq34.l1 kke0 kkr n i d d1 i1 list).bind g := by
 intro n
 induction n with
 | zero => intros; rfl
 | succ n ih => intros; simp only [gq34.l1, grd_bind, cnd_bind, bnd_bind, non_bind, ih]
def gq34.F {R : Type} (kk : Int → List (El kFile) → Int → Option R) (d_Room : Int) (d_Files : List (El kFile)) (was_Term : Int) (was_Vote : Int) (was_Log : List (El kkb53)) (now_Term : Int) (now_Vote : Int) (now_Log : List (El kkb53)) : Option R :=
 (gq73 d_Room d_Files).bind fun r =>
 cond (!r) (kk (0 : Int) [] (1 : Int)) (
  (gq79 was_Term was_Vote was_Log).bind fun r1 =>
  cond (!r1) (kk (0 : Int) [] (1 : Int)) (
   (gq79 now_Term now_Vote now_Log).bind fun r2 =>
   cond (!r2) (kk (0 : Int) [] (1 : Int)) (
    (gq80 was_Term was_Vote was_Log now_Term now_Vote now_Log).bind fun r3 =>
    gq34.l1 (fun d d1 i =>
     (gq81 d d1).bind fun r4 =>
     (gq50 r4.1 r4.2).bind fun r5 =>
     kk r5.1 r5.2 (0 : Int)) (fun i1 i2 => kk i2 [] i1) fuel (0 : Int) d_Room d_Files (0 : Int) r3)))
theorem gq34.F_nat {R S : Type} (g : R → Option S) (kk : Int → List (El kFile) → Int → Option R) (d_Room d_Files was_Term was_Vote was_Log now_Term now_Vote now_Log) : gq34.F (fun y0 y1 y2 => (kk y0 y1 y2).bind g) d_Room d_Files was_Term was_Vote was_Log now_Term now_Vote now_Log = (gq34.F kk d_Room d_Files was_Term was_Vote was_Log now_Term now_Vote now_Log).bind g := by
 simp only [gq34.F, grd_bind, cnd_bind, bnd_bind, non_bind, ← gq34.l1_nat]
def gq34 (d_Room : Int) (d_Files : List (El kFile)) (was_Term : Int) (was_Vote : Int) (was_Log : List (El kkb53)) (now_Term : Int) (now_Vote : Int) (now_Log : List (El kkb53)) : Option (Int × List (El kFile) × Int) := gq34.F (fun y0 y1 y2 => some (y0, y1, y2)) d_Room d_Files was_Term was_Vote was_Log now_Term now_Vote now_Log
def gq34.out : (Int × List (El kFile) × Int) → CRes := fun a => ⟨encL SV.enc [.agg [.int .i64, .own [] kFile true], .one (.int .i64)] ((a.1, a.2.1, ()), a.2.2, ()), [encL SC.enc [] (), encL SC.enc [] (), encL SC.enc [] ()]⟩
def gq34.ps : List PS := [.val [none, some (kFile, false)], .val [none, none, some (kkb53, false)], .val [none, none, some (kkb53, false)]]
def gq34.sA : List SA := [.v (.agg [.int .i64, .slv [] kFile]), .v (.agg [.int .i64, .int .i64, .slv [] kkb53]), .v (.agg [.int .i64, .int .i64, .slv [] kkb53])]
def gq34.fi : FI := FIs gq34.sA (Int × List (El kFile) × Int) (fun t => gq34 t.1.1 t.1.2.1 t.2.1.1 t.2.1.2.1 t.2.1.2.2.1 t.2.2.1.1 t.2.2.1.2.1 t.2.2.1.2.2.1) gq34.out gq34.ps
def gq34.E : Env := ⟨tt, lkF [(50, gq50.fi), (60, gq60.fi), (61, gq61.fi), (62, gq62.fi), (73, gq73.fi), (79, gq79.fi), (80, gq80.fi), (81, gq81.fi)], 69, 0, [], []⟩
def gq34.sh1 : SK := ⟨[.v (.one (.bptr 0 0)), .v (.one (.bptr 1 0)), .v (.one (.slo 2)), .v (.one (.int .i64))], [.box [.int .i64, .slv [0, 1] kFile], .box [.int .i64, .nil], .arr .str [] true]⟩
def gq34.sh1e0 : SK := ⟨[.v (.one (.bptr 0 0)), .v (.one (.bptr 1 0))], [.box [.int .i64, .slv [0, 1] kFile], .box [.int .i64, .nil]]⟩
def gq34.sh1r : SK := ⟨[.v (.one (.bptr 0 0)), .v (.one (.int .i64))], [.box [.int .i64, .nil]]⟩
def gq34.ko1 : Ex → List CastAt × List Nat
 | .nrm => ([], [])
 | .ret => ([], [6, 7])
 | .ext i => cond (Nat.beq i 0) ([], [3, 6]) ([], [])
def gq34.G1 (n : Nat) (R : Type) (t : gq34.sh1.T) (K : Ex → Kp → Option R) : Option R := gq34.l1 (fun y0 y1 y2 => K (.ext 0) (SK.enc gq34.sh1e0 (((), (), ()), ((y0, y1, ()), (y2, (), ()), ())))) (fun y0 y1 => K .ret (SK.enc gq34.sh1r (((), y0, ()), ((y1, (), ()), ())))) n t.1.2.2.2.1 t.2.1.1 t.2.1.2.1 t.2.2.1.1 t.2.2.2.1
def gq34.S1 : Sum := ⟨([⟨3, true, 1, .slv [0, 1] kFile⟩], [3, 6, 8, 9]), sumF gq34.sh1 (gq34.G1 fuel), gq34.ko1⟩
theorem gq34.ok1 (hE : EOk Tryz.prog (gq34.E)) : SumOk Tryz.prog gq34.E (cB (cR (cL (cR (cR (cR (bodyOf Tryz.f34))))))) (gq34.S1) := by
 have hh : HintOk Tryz.prog gq34.E (cB (cB (cR (cL (cR (cR (cR (bodyOf Tryz.f34)))))))) (.a) := HintOk.n1 (Q := True) (by kernel_rfl) trivial
 have h := loopS (kin := ([⟨3, true, 1, .slv [0, 1] kFile⟩], [3, 6, 8, 9])) (kout := gq34.ko1) (sh := gq34.sh1) (F := gq34.G1) (ops_ok (hE.gv _)) (by kernel_rfl) hh (fun _ _ _ => rfl) (fun n R t K => by kernel_rfl) fuel
 exact HintOk.n1 (c := (cB (cR (cL (cR (cR (cR (bodyOf Tryz.f34)))))))) (h := .s (gq34.S1)) (P := Tryz.prog) (E := gq34.E) (by kernel_rfl) h
theorem gq34.hok (hE : EOk Tryz.prog (gq34.E)) : HintOk Tryz.prog gq34.E (bodyOf Tryz.f34) (.n (.a) (.n (.a) (.n (.a) (.n (.n (.a) (.b (.s (gq34.S1)))) (.a))))) := HintOk.n1 (Q := (True) ∧ ((True) ∧ ((True) ∧ (((True) ∧ (SumOk Tryz.prog gq34.E (cB (cR (cL (cR (cR (cR (bodyOf Tryz.f34))))))) (gq34.S1))) ∧ (True))))) (by kernel_rfl) ⟨trivial, ⟨trivial, ⟨trivial, ⟨⟨trivial, (gq34.ok1 hE)⟩, trivial⟩⟩⟩⟩
theorem gq34.hE : EOk Tryz.prog (gq34.E) := EOk.of ttOk (⟨gq50.fok, ⟨gq60.fok, ⟨gq61.fok, ⟨gq62.fok, ⟨gq73.fok, ⟨gq79.fok, ⟨gq80.fok, ⟨gq81.fok, trivial⟩⟩⟩⟩⟩⟩⟩⟩)
theorem gq34.fok : FOk Tryz.prog 34 gq34.fi :=
 fokS (E := gq34.E) (wy := ⟨[[none, some (kFile, true)], [none]], [[], [], []], []⟩) (h := (fun gs => .n (.a) (.n (.a) (.n (.a) (.n (.n (.a) (.b (.s (gq34.S1)))) (.a)))))) (G := fun t g => gq34.F (fun y0 y1 y2 => g (y0, y1, y2)) t.1.1 t.1.2.1 t.2.1.1 t.2.1.2.1 t.2.1.2.2.1 t.2.2.1.1 t.2.2.1.2.1 t.2.2.1.2.2.1) (by kernel_rfl) gq34.hE Tryz.func34 (by kernel_rfl) rfl (Nat.le_refl _) (fun t => HintOk.n1 (by kernel_rfl) (gq34.hok gq34.hE)) (fun t g => gq34.F_nat g (fun y0 y1 y2 => some (y0, y1, y2)) _ _ _ _ _ _ _ _) (fun t => by kernel_rfl)
def gq135.F {R : Type} (kk : Int → Int → ByteArray → Option R) (a_Term : Int) (a_Kind : Int) (a_Data : ByteArray) : Option R :=
 kk a_Term a_Kind a_Data
theorem gq135.F_nat {R S : Type} (g : R → Option S) (kk : Int → Int → ByteArray → Option R) (a_Term a_Kind a_Data) : gq135.F (fun y0 y1 y2 => (kk y0 y1 y2).bind g) a_Term a_Kind a_Data = (gq135.F kk a_Term a_Kind a_Data).bind g := by
 simp only [gq135.F, grd_bind, cnd_bind, bnd_bind, non_bind]
def gq135 (a_Term : Int) (a_Kind : Int) (a_Data : ByteArray) : Option (Int × Int × ByteArray) := gq135.F (fun y0 y1 y2 => some (y0, y1, y2)) a_Term a_Kind a_Data
def gq135.out : (Int × Int × ByteArray) → CRes := fun a => ⟨encL SV.enc [.agg [.int .i64, .int .i64, .str]] ((a.1, a.2.1, a.2.2, ()), ()), [encL SC.enc [] ()]⟩
def gq135.ps : List PS := [.val [none, none, none]]
def gq135.sA : List SA := [.v (.agg [.int .i64, .int .i64, .str])]
def gq135.fi : FI := FIs gq135.sA (Int × Int × ByteArray) (fun t => gq135 t.1.1 t.1.2.1 t.1.2.2.1) gq135.out gq135.ps
def gq135.E : Env := ⟨tt, lkF [], 14, 0, [], []⟩
theorem gq135.hok (hE : EOk Tryz.prog (gq135.E)) : HintOk Tryz.prog gq135.E (bodyOf Tryz.f135) (.a) := HintOk.n1 (Q := True) (by kernel_rfl) trivial
theorem gq135.hE : EOk Tryz.prog (gq135.E) := EOk.of ttOk (trivial)
theorem gq135.fok : FOk Tryz.prog 135 gq135.fi :=
 fokS (E := gq135.E) (wy := ⟨[[none, none, none]], [[]], []⟩) (h := (fun gs => .a)) (G := fun t g => gq135.F (fun y0 y1 y2 => g (y0, y1, y2)) t.1.1 t.1.2.1 t.1.2.2.1) (by kernel_rfl) gq135.hE Tryz.func135 (by kernel_rfl) rfl (Nat.le_refl _) (fun t => HintOk.n1 (by kernel_rfl) (gq135.hok gq135.hE)) (fun t g => gq135.F_nat g (fun y0 y1 y2 => some (y0, y1, y2)) _ _ _) (fun t => by kernel_rfl)
def gq82.l1 {R : Type} (kke0 : List (El kkb53) → Option R) : Nat → List (El kkb53) → Int → List (El kkb53) → Option R
 | 0, _, _, _ => none
 | n + 1, a, i, out =>
  cond (decide (i < (List.length a : Int))) (
   grd (gIx i (List.length a)) <|
   (gq135 ((rdE kkb53 a (Int.toNat i)).1) ((rdE kkb53 a (Int.toNat i)).2.1) ((rdE kkb53 a (Int.toNat i)).2.2)).bind fun r =>
   grd (gIx i (List.length out)) <|
   gq82.l1 kke0 n a (IntKind.wrap .i64 (i + (1 : Int))) (setE kkb53 out (Int.toNat i) r)) (kke0 out)
theorem gq82.l1_nat {R S : Type} (g : R → Option S) (kke0 : List (El kkb53) → Option R) : ∀ n a i out, gq82.l1 (fun y0 => (kke0 y0).bind g) n a i out = (gq82.l1 kke0 n a i out).bind g := by
 intro n
 induction n with
 | zero => intros; rfl
 | succ n ih => intros; simp only [gq82.l1, grd_bind, cnd_bind, bnd_bind, non_bind, ih]
def gq82.F {R : Type} (kk : List (El kkb53) → Option R) (a : List (El kkb53)) : Option R :=
 grd (gMk (List.length a : Int) (List.length a : Int) 32) <|
 gq82.l1 (fun out => kk out) fuel a (0 : Int) (List.replicate (Int.toNat (List.length a : Int)) ((0 : Int), ((0 : Int), ByteArray.empty)))
theorem gq82.F_nat {R S : Type} (g : R → Option S) (kk : List (El kkb53) → Option R) (a) : gq82.F (fun y0 => (kk y0).bind g) a = (gq82.F kk a).bind g := by
 simp only [gq82.F, grd_bind, cnd_bind, bnd_bind, non_bind, ← gq82.l1_nat]
def gq82 (a : List (El kkb53)) : Option (List (El kkb53)) := gq82.F (fun y0 => some y0) a
def gq82.out : (List (El kkb53)) → CRes := fun a => ⟨encL SV.enc [.one (.own [] kkb53 true)] (a, ()), [encL SC.enc [] ()]⟩
def gq82.ps : List PS := [.val [some (kkb53, false)]]
def gq82.sA : List SA := [.v (.one (.slv [] kkb53))]
def gq82.fi : FI := FIs gq82.sA (List (El kkb53)) (fun t => gq82 t.1) gq82.out gq82.ps
def gq82.E : Env := ⟨tt, lkF [(135, gq135.fi)], 23, 0, [], []⟩
def gq82.sh1 : SK := ⟨[.v (.one (.slv [1] kkb53)), .v (.one (.slo 0)), .v (.one (.int .i64))], [.arr kkb53 [] true]⟩
def gq82.sh1e0 : SK := ⟨[.v (.one (.slo 0))], [.arr kkb53 [] true]⟩
def gq82.ko1 : Ex → List CastAt × List Nat
 | .nrm => ([], [])
 | .ret => ([], [])
 | .ext i => cond (Nat.beq i 0) ([], [3]) ([], [])
def gq82.G1 (n : Nat) (R : Type) (t : gq82.sh1.T) (K : Ex → Kp → Option R) : Option R := gq82.l1 (fun y0 => K (.ext 0) (SK.enc gq82.sh1e0 (((), ()), (y0, ())))) n t.1.1 t.1.2.2.1 t.2.1
def gq82.S1 : Sum := ⟨([], [0, 3, 4]), sumF gq82.sh1 (gq82.G1 fuel), gq82.ko1⟩
theorem gq82.ok1 (hE : EOk Tryz.prog (gq82.E)) : SumOk Tryz.prog gq82.E (cB (cR (cL (cR (cR (bodyOf Tryz.f82)))))) (gq82.S1) := by
 have hh : HintOk Tryz.prog gq82.E (cB (cB (cR (cL (cR (cR (bodyOf Tryz.f82))))))) (.a) := HintOk.n1 (Q := True) (by kernel_rfl) trivial
 have h := loopS (kin := ([], [0, 3, 4])) (kout := gq82.ko1) (sh := gq82.sh1) (F := gq82.G1) (ops_ok (hE.gv _)) (by kernel_rfl) hh (fun _ _ _ => rfl) (fun n R t K => by kernel_rfl) fuel
 exact HintOk.n1 (c := (cB (cR (cL (cR (cR (bodyOf Tryz.f82))))))) (h := .s (gq82.S1)) (P := Tryz.prog) (E := gq82.E) (by kernel_rfl) h
theorem gq82.hok (hE : EOk Tryz.prog (gq82.E)) : HintOk Tryz.prog gq82.E (bodyOf Tryz.f82) (.n (.a) (.n (.a) (.n (.n (.a) (.b (.s (gq82.S1)))) (.a)))) := HintOk.n1 (Q := (True) ∧ ((True) ∧ (((True) ∧ (SumOk Tryz.prog gq82.E (cB (cR (cL (cR (cR (bodyOf Tryz.f82)))))) (gq82.S1))) ∧ (True)))) (by kernel_rfl) ⟨trivial, ⟨trivial, ⟨⟨trivial, (gq82.ok1 hE)⟩, trivial⟩⟩⟩
theorem gq82.hE : EOk Tryz.prog (gq82.E) := EOk.of ttOk (⟨gq135.fok, trivial⟩)
theorem gq82.fok : FOk Tryz.prog 82 gq82.fi :=
 fokS (E := gq82.E) (wy := ⟨[[some (kkb53, true)]], [[]], []⟩) (h := (fun gs => .n (.a) (.n (.a) (.n (.n (.a) (.b (.s (gq82.S1)))) (.a))))) (G := fun t g => gq82.F (fun y0 => g y0) t.1) (by kernel_rfl) gq82.hE Tryz.func82 (by kernel_rfl) rfl (Nat.le_refl _) (fun t => HintOk.n1 (by kernel_rfl) (gq82.hok gq82.hE)) (fun t g => gq82.F_nat g (fun y0 => some y0) _) (fun t => by kernel_rfl)
def gq35.F {R : Type} (kk : Int → Int → List (El kkb53) → Option R) (a_Term : Int) (a_Vote : Int) (a_Log : List (El kkb53)) : Option R :=
 (gq82 a_Log).bind fun r =>
 kk a_Term a_Vote r
theorem gq35.F_nat {R S : Type} (g : R → Option S) (kk : Int → Int → List (El kkb53) → Option R) (a_Term a_Vote a_Log) : gq35.F (fun y0 y1 y2 => (kk y0 y1 y2).bind g) a_Term a_Vote a_Log = (gq35.F kk a_Term a_Vote a_Log).bind g := by
 simp only [gq35.F, grd_bind, cnd_bind, bnd_bind, non_bind]
def gq35 (a_Term : Int) (a_Vote : Int) (a_Log : List (El kkb53)) : Option (Int × Int × List (El kkb53)) := gq35.F (fun y0 y1 y2 => some (y0, y1, y2)) a_Term a_Vote a_Log
def gq35.out : (Int × Int × List (El kkb53)) → CRes := fun a => ⟨encL SV.enc [.agg [.int .i64, .int .i64, .own [] kkb53 true]] ((a.1, a.2.1, a.2.2, ()), ()), [encL SC.enc [] ()]⟩
def gq35.ps : List PS := [.val [none, none, some (kkb53, false)]]
def gq35.sA : List SA := [.v (.agg [.int .i64, .int .i64, .slv [] kkb53])]
def gq35.fi : FI := FIs gq35.sA (Int × Int × List (El kkb53)) (fun t => gq35 t.1.1 t.1.2.1 t.1.2.2.1) gq35.out gq35.ps
def gq35.E : Env := ⟨tt, lkF [(82, gq82.fi)], 15, 0, [], []⟩
theorem gq35.hok (hE : EOk Tryz.prog (gq35.E)) : HintOk Tryz.prog gq35.E (bodyOf Tryz.f35) (.a) := HintOk.n1 (Q := True) (by kernel_rfl) trivial
theorem gq35.hE : EOk Tryz.prog (gq35.E) := EOk.of ttOk (⟨gq82.fok, trivial⟩)
theorem gq35.fok : FOk Tryz.prog 35 gq35.fi :=
 fokS (E := gq35.E) (wy := ⟨[[none, none, some (kkb53, true)]], [[]], []⟩) (h := (fun gs => .a)) (G := fun t g => gq35.F (fun y0 y1 y2 => g (y0, y1, y2)) t.1.1 t.1.2.1 t.1.2.2.1) (by kernel_rfl) gq35.hE Tryz.func35 (by kernel_rfl) rfl (Nat.le_refl _) (fun t => HintOk.n1 (by kernel_rfl) (gq35.hok gq35.hE)) (fun t g => gq35.F_nat g (fun y0 y1 y2 => some (y0, y1, y2)) _ _ _) (fun t => by kernel_rfl)
def gq67.F {R : Type} (kk : Bool → Option R) (n_ : Int) (low : Int) (high : Int) : Option R :=
 cond (decide (n_ ≥ low)) (kk (decide (n_ ≤ high))) (kk false)
theorem gq67.F_nat {R S : Type} (g : R → Option S) (kk : Bool → Option R) (n_ low high) : gq67.F (fun y0 => (kk y0).bind g) n_ low high = (gq67.F kk n_ low high).bind g := by
 simp only [gq67.F, grd_bind, cnd_bind, bnd_bind, non_bind]
def gq67 (n_ : Int) (low : Int) (high : Int) : Option Bool := gq67.F (fun y0 => some y0) n_ low high
def gq67.out : Bool → CRes := fun a => ⟨encL SV.enc [.one (.bool)] (a, ()), [encL SC.enc [] (), encL SC.enc [] (), encL SC.enc [] ()]⟩
def gq67.ps : List PS := [.val [none], .val [none], .val [none]]
def gq67.sA : List SA := [.v (.one (.int .i64)), .v (.one (.int .i64)), .v (.one (.int .i64))]
def gq67.fi : FI := FIs gq67.sA (Bool) (fun t => gq67 t.1 t.2.1 t.2.2.1) gq67.out gq67.ps
def gq67.E : Env := ⟨tt, lkF [], 15, 0, [], []⟩
theorem gq67.hok (hE : EOk Tryz.prog (gq67.E)) : HintOk Tryz.prog gq67.E (bodyOf Tryz.f67) (.a) := HintOk.n1 (Q := True) (by kernel_rfl) trivial
theorem gq67.hE : EOk Tryz.prog (gq67.E) := EOk.of ttOk (trivial)
theorem gq67.fok : FOk Tryz.prog 67 gq67.fi :=
 fokS (E := gq67.E) (wy := ⟨[[none]], [[], [], []], []⟩) (h := (fun gs => .a)) (G := fun t g => gq67.F (fun y0 => g y0) t.1 t.2.1 t.2.2.1) (by kernel_rfl) gq67.hE Tryz.func67 (by kernel_rfl) rfl (Nat.le_refl _) (fun t => HintOk.n1 (by kernel_rfl) (gq67.hok gq67.hE)) (fun t g => gq67.F_nat g (fun y0 => some y0) _ _ _) (fun t => by kernel_rfl)
def gq204.l1 {R : Type} (f : ((Int × Unit) → Option (Bool × Unit))) (kke0 : Option R) (kkr : Int → Option R) : Nat → List Int → Int → Int → Option R
 | 0, _, _, _ => none
 | n + 1, s, i, i1 =>
  cond (decide (i1 < i)) (
   grd (gIx i1 (List.length s)) <|
   (f (rdE (.int .i64 : Kd) s (Int.toNat i1), ())).bind fun r =>
   cond (r.1) (kkr i1) (gq204.l1 f kke0 kkr n s i (IntKind.wrap .i64 (i1 + (1 : Int))))) (kke0)
theorem gq204.l1_nat {R S : Type} (g : R → Option S) (f : ((Int × Unit) → Option (Bool × Unit))) (kke0 : Option R) (kkr : Int → Option R) : ∀ n s i i1, gq204.l1 f (kke0.bind g) (fun y0 => (kkr y0).bind g) n s i i1 = (gq204.l1 f kke0 kkr n s i i1).bind g := by
 intro n
 induction n with
 | zero => intros; rfl
 | succ n ih => intros; simp only [gq204.l1, grd_bind, cnd_bind, bnd_bind, non_bind, ih]
def gq204.F {R : Type} (kk : Int → Option R) (s : List Int) (f : ((Int × Unit) → Option (Bool × Unit))) : Option R :=
 gq204.l1 f (kk (-1 : Int)) (fun i => kk i) fuel s (List.length s : Int) (0 : Int)
theorem gq204.F_nat {R S : Type} (g : R → Option S) (kk : Int → Option R) (s f) : gq204.F (fun y0 => (kk y0).bind g) s f = (gq204.F kk s f).bind g := by
 simp only [gq204.F, grd_bind, cnd_bind, bnd_bind, non_bind, ← gq204.l1_nat]
def gq204 (s : List Int) (f : ((Int × Unit) → Option (Bool × Unit))) : Option Int := gq204.F (fun y0 => some y0) s f
def gq204.out : Int → CRes := fun a => ⟨encL SV.enc [.one (.int .i64)] (a, ()), [encL SC.enc [] (), encL SC.enc [] ()]⟩
def gq204.ps : List PS := [.val [some ((.int .i64), false)], .fn [.one (.bool)]]
def gq204.sA : List SA := [.v (.one (.slv [] (.int .i64))), .fn [.one (.int .i64)] [.one (.bool)]]
def gq204.fi : FI := FIs gq204.sA (Int) (fun t => gq204 t.1 t.2.1) gq204.out gq204.ps
def gq204.E : Env := ⟨tt, lkF [], 19, 0, [], []⟩
def gq204.sh1 : SK := ⟨[.v (.one (.slv [1] (.int .i64))), .v (.one (.fv 0)), .v (.one (.int .i64)), .v (.one (.int .i64))], []⟩
def gq204.sh1e0 : SK := ⟨[], []⟩
def gq204.sh1r : SK := ⟨[.v (.one (.int .i64))], []⟩
def gq204.ko1 : Ex → List CastAt × List Nat
 | .nrm => ([], [])
 | .ret => ([], [4])
 | .ext i => cond (Nat.beq i 0) ([], []) ([], [])
def gq204.G1 (f : ((Int × Unit) → Option (Bool × Unit))) (n : Nat) (R : Type) (t : gq204.sh1.T) (K : Ex → Kp → Option R) : Option R := gq204.l1 f (K (.ext 0) (SK.enc gq204.sh1e0 ((), ()))) (fun y0 => K .ret (SK.enc gq204.sh1r ((y0, ()), ()))) n t.1.1 t.1.2.2.1 t.1.2.2.2.1
def gq204.S1 (f : ((Int × Unit) → Option (Bool × Unit))) : Sum := ⟨([], [0, 1, 7, 8]), sumF gq204.sh1 (gq204.G1 f fuel), gq204.ko1⟩
theorem gq204.ok1 (f : ((Int × Unit) → Option (Bool × Unit))) (hE : EOk Tryz.prog (gq204.E)) : SumOk Tryz.prog { (gq204.E) with gv := [fnE [.one (.int .i64)] [.one (.bool)] f] } (cB (cR (cL (cR (bodyOf Tryz.f204))))) (gq204.S1 f) := by
 have hh : HintOk Tryz.prog { (gq204.E) with gv := [fnE [.one (.int .i64)] [.one (.bool)] f] } (cB (cB (cR (cL (cR (bodyOf Tryz.f204)))))) (.a) := HintOk.n1 (Q := True) (by kernel_rfl) trivial
 have h := loopS (kin := ([], [0, 1, 7, 8])) (kout := gq204.ko1) (sh := gq204.sh1) (F := gq204.G1 f) (ops_ok (hE.gv _)) (by kernel_rfl) hh (fun _ _ _ => rfl) (fun n R t K => by kernel_rfl) fuel
 exact HintOk.n1 (c := (cB (cR (cL (cR (bodyOf Tryz.f204)))))) (h := .s (gq204.S1 f)) (P := Tryz.prog) (E := { (gq204.E) with gv := [fnE [.one (.int .i64)] [.one (.bool)] f] }) (by kernel_rfl) h
theorem gq204.hok (f : ((Int × Unit) → Option (Bool × Unit))) (hE : EOk Tryz.prog (gq204.E)) : HintOk Tryz.prog { (gq204.E) with gv := [fnE [.one (.int .i64)] [.one (.bool)] f] } (bodyOf Tryz.f204) (.n (.a) (.n (.n (.a) (.b (.s (gq204.S1 f)))) (.a))) := HintOk.n1 (Q := (True) ∧ (((True) ∧ (SumOk Tryz.prog { (gq204.E) with gv := [fnE [.one (.int .i64)] [.one (.bool)] f] } (cB (cR (cL (cR (bodyOf Tryz.f204))))) (gq204.S1 f))) ∧ (True))) (by kernel_rfl) ⟨trivial, ⟨⟨trivial, (gq204.ok1 f hE)⟩, trivial⟩⟩
theorem gq204.hE : EOk Tryz.prog (gq204.E) := EOk.of ttOk (trivial)
theorem gq204.fok : FOk Tryz.prog 204 gq204.fi :=
 fokS (E := gq204.E) (wy := ⟨[[none]], [[], []], []⟩) (h := (fun gs => let f := fnP [.one (.int .i64)] [.one (.bool)] (gN 0 gs); .n (.a) (.n (.n (.a) (.b (.s (gq204.S1 f)))) (.a)))) (G := fun t g => gq204.F (fun y0 => g y0) t.1 t.2.1) (by kernel_rfl) gq204.hE Tryz.func204 (by kernel_rfl) rfl (Nat.le_refl _) (fun t => HintOk.n1 (by kernel_rfl) (gq204.hok t.2.1 gq204.hE)) (fun t g => gq204.F_nat g (fun y0 => some y0) _ _) (fun t => by kernel_rfl)
def gq198.F {R : Type} (kk : Bool → Option R) (s : List Int) (f : ((Int × Unit) → Option (Bool × Unit))) : Option R :=
 (gq204 s f).bind fun r =>
 kk (decide (r ≥ (0 : Int)))
theorem gq198.F_nat {R S : Type} (g : R → Option S) (kk : Bool → Option R) (s f) : gq198.F (fun y0 => (kk y0).bind g) s f = (gq198.F kk s f).bind g := by
 simp only [gq198.F, grd_bind, cnd_bind, bnd_bind, non_bind]
def gq198 (s : List Int) (f : ((Int × Unit) → Option (Bool × Unit))) : Option Bool := gq198.F (fun y0 => some y0) s f
def gq198.out : Bool → CRes := fun a => ⟨encL SV.enc [.one (.bool)] (a, ()), [encL SC.enc [] (), encL SC.enc [] ()]⟩
def gq198.ps : List PS := [.val [some ((.int .i64), false)], .fn [.one (.bool)]]
def gq198.sA : List SA := [.v (.one (.slv [] (.int .i64))), .fn [.one (.int .i64)] [.one (.bool)]]
def gq198.fi : FI := FIs gq198.sA (Bool) (fun t => gq198 t.1 t.2.1) gq198.out gq198.ps
def gq198.E : Env := ⟨tt, lkF [(204, gq204.fi)], 9, 0, [], []⟩
theorem gq198.hok (f : ((Int × Unit) → Option (Bool × Unit))) (hE : EOk Tryz.prog (gq198.E)) : HintOk Tryz.prog { (gq198.E) with gv := [fnE [.one (.int .i64)] [.one (.bool)] f] } (bodyOf Tryz.f198) (.a) := HintOk.n1 (Q := True) (by kernel_rfl) trivial
theorem gq198.hE : EOk Tryz.prog (gq198.E) := EOk.of ttOk (⟨gq204.fok, trivial⟩)
theorem gq198.fok : FOk Tryz.prog 198 gq198.fi :=
 fokS (E := gq198.E) (wy := ⟨[[none]], [[], []], []⟩) (h := (fun gs => let f := fnP [.one (.int .i64)] [.one (.bool)] (gN 0 gs); .a)) (G := fun t g => gq198.F (fun y0 => g y0) t.1 t.2.1) (by kernel_rfl) gq198.hE Tryz.func198 (by kernel_rfl) rfl (Nat.le_refl _) (fun t => HintOk.n1 (by kernel_rfl) (gq198.hok t.2.1 gq198.hE)) (fun t g => gq198.F_nat g (fun y0 => some y0) _ _) (fun t => by kernel_rfl)
def gq199.F {R : Type} (kk : Bool → Option R) (n_ : Int) : Option R :=
 (gq67 n_ (0 : Int) (6 : Int)).bind fun r =>
 kk (!r)
theorem gq199.F_nat {R S : Type} (g : R → Option S) (kk : Bool → Option R) (n_) : gq199.F (fun y0 => (kk y0).bind g) n_ = (gq199.F kk n_).bind g := by
 simp only [gq199.F, grd_bind, cnd_bind, bnd_bind, non_bind]
def gq199 (n_ : Int) : Option Bool := gq199.F (fun y0 => some y0) n_
def gq199.out : Bool → CRes := fun a => ⟨encL SV.enc [.one (.bool)] (a, ()), [encL SC.enc [] ()]⟩
def gq199.ps : List PS := [.val [none]]
def gq199.sA : List SA := [.v (.one (.int .i64))]
def gq199.fi : FI := FIs gq199.sA (Bool) (fun t => gq199 t.1) gq199.out gq199.ps
def gq199.E : Env := ⟨tt, lkF [(67, gq67.fi)], 6, 0, [], []⟩
theorem gq199.hok (hE : EOk Tryz.prog (gq199.E)) : HintOk Tryz.prog gq199.E (bodyOf Tryz.f199) (.a) := HintOk.n1 (Q := True) (by kernel_rfl) trivial
theorem gq199.hE : EOk Tryz.prog (gq199.E) := EOk.of ttOk (⟨gq67.fok, trivial⟩)
theorem gq199.fok : FOk Tryz.prog 199 gq199.fi :=
 fokS (E := gq199.E) (wy := ⟨[[none]], [[]], []⟩) (h := (fun gs => .a)) (G := fun t g => gq199.F (fun y0 => g y0) t.1) (by kernel_rfl) gq199.hE Tryz.func199 (by kernel_rfl) rfl (Nat.le_refl _) (fun t => HintOk.n1 (by kernel_rfl) (gq199.hok gq199.hE)) (fun t g => gq199.F_nat g (fun y0 => some y0) _) (fun t => by kernel_rfl)
def gq192.F {R : Type} (kk : Bool → Option R) (list : List Int) : Option R :=
 (gq198 list (fun t => (gq199 t.1).bind fun a => some (a, ()))).bind fun r =>
 kk (!r)
theorem gq192.F_nat {R S : Type} (g : R → Option S) (kk : Bool → Option R) (list) : gq192.F (fun y0 => (kk y0).bind g) list = (gq192.F kk list).bind g := by
 simp only [gq192.F, grd_bind, cnd_bind, bnd_bind, non_bind]
def gq192 (list : List Int) : Option Bool := gq192.F (fun y0 => some y0) list
def gq192.out : Bool → CRes := fun a => ⟨encL SV.enc [.one (.bool)] (a, ()), [encL SC.enc [] ()]⟩
def gq192.ps : List PS := [.val [some ((.int .i64), false)]]
def gq192.sA : List SA := [.v (.one (.slv [] (.int .i64)))]
def gq192.fi : FI := FIs gq192.sA (Bool) (fun t => gq192 t.1) gq192.out gq192.ps
def gq192.E : Env := ⟨tt, lkF [(198, gq198.fi), (199, gq199.fi)], 6, 0, [], []⟩
theorem gq192.hok (hE : EOk Tryz.prog (gq192.E)) : HintOk Tryz.prog gq192.E (bodyOf Tryz.f192) (.a) := HintOk.n1 (Q := True) (by kernel_rfl) trivial
theorem gq192.hE : EOk Tryz.prog (gq192.E) := EOk.of ttOk (⟨gq198.fok, ⟨gq199.fok, trivial⟩⟩)
theorem gq192.fok : FOk Tryz.prog 192 gq192.fi :=
 fokS (E := gq192.E) (wy := ⟨[[none]], [[]], []⟩) (h := (fun gs => .a)) (G := fun t g => gq192.F (fun y0 => g y0) t.1) (by kernel_rfl) gq192.hE Tryz.func192 (by kernel_rfl) rfl (Nat.le_refl _) (fun t => HintOk.n1 (by kernel_rfl) (gq192.hok gq192.hE)) (fun t g => gq192.F_nat g (fun y0 => some y0) _) (fun t => by kernel_rfl)
def gq193.l1 {R : Type} (kke0 : Option R) (kkr : Bool → Option R) : Nat → List Int → Int → Option R
 | 0, _, _ => none
 | n + 1, list, i =>
  cond (decide (i < (List.length list : Int))) (
   grd (gIx (IntKind.wrap .i64 (i - (1 : Int))) (List.length list)) <|
   grd (gIx i (List.length list)) <|
   cond (decide ((rdE (.int .i64 : Kd) list (Int.toNat (IntKind.wrap .i64 (i - (1 : Int))))) ≥ (rdE (.int .i64 : Kd) list (Int.toNat i)))) (kkr false) (gq193.l1 kke0 kkr n list (IntKind.wrap .i64 (i + (1 : Int))))) (kke0)
theorem gq193.l1_nat {R S : Type} (g : R → Option S) (kke0 : Option R) (kkr : Bool → Option R) : ∀ n list i, gq193.l1 (kke0.bind g) (fun y0 => (kkr y0).bind g) n list i = (gq193.l1 kke0 kkr n list i).bind g := by
 intro n
 induction n with
 | zero => intros; rfl
 | succ n ih => intros; simp only [gq193.l1, grd_bind, cnd_bind, bnd_bind, non_bind, ih]
def gq193.F {R : Type} (kk : Bool → Option R) (list : List Int) : Option R :=
 gq193.l1 (kk true) (fun b => kk b) fuel list (1 : Int)
theorem gq193.F_nat {R S : Type} (g : R → Option S) (kk : Bool → Option R) (list) : gq193.F (fun y0 => (kk y0).bind g) list = (gq193.F kk list).bind g := by
 simp only [gq193.F, grd_bind, cnd_bind, bnd_bind, non_bind, ← gq193.l1_nat]
def gq193 (list : List Int) : Option Bool := gq193.F (fun y0 => some y0) list
def gq193.out : Bool → CRes := fun a => ⟨encL SV.enc [.one (.bool)] (a, ()), [encL SC.enc [] ()]⟩
def gq193.ps : List PS := [.val [some ((.int .i64), false)]]
def gq193.sA : List SA := [.v (.one (.slv [] (.int .i64)))]
def gq193.fi : FI := FIs gq193.sA (Bool) (fun t => gq193 t.1) gq193.out gq193.ps
def gq193.E : Env := ⟨tt, lkF [], 20, 0, [], []⟩
def gq193.sh1 : SK := ⟨[.v (.one (.slv [1] (.int .i64))), .v (.one (.int .i64))], []⟩
def gq193.sh1e0 : SK := ⟨[], []⟩
def gq193.sh1r : SK := ⟨[.v (.one (.bool))], []⟩
def gq193.ko1 : Ex → List CastAt × List Nat
 | .nrm => ([], [])
 | .ret => ([], [2])
 | .ext i => cond (Nat.beq i 0) ([], []) ([], [])
def gq193.G1 (n : Nat) (R : Type) (t : gq193.sh1.T) (K : Ex → Kp → Option R) : Option R := gq193.l1 (K (.ext 0) (SK.enc gq193.sh1e0 ((), ()))) (fun y0 => K .ret (SK.enc gq193.sh1r ((y0, ()), ()))) n t.1.1 t.1.2.1
def gq193.S1 : Sum := ⟨([], [0, 3]), sumF gq193.sh1 (gq193.G1 fuel), gq193.ko1⟩
theorem gq193.ok1 (hE : EOk Tryz.prog (gq193.E)) : SumOk Tryz.prog gq193.E (cB (cR (cL (cR (bodyOf Tryz.f193))))) (gq193.S1) := by
 have hh : HintOk Tryz.prog gq193.E (cB (cB (cR (cL (cR (bodyOf Tryz.f193)))))) (.a) := HintOk.n1 (Q := True) (by kernel_rfl) trivial
 have h := loopS (kin := ([], [0, 3])) (kout := gq193.ko1) (sh := gq193.sh1) (F := gq193.G1) (ops_ok (hE.gv _)) (by kernel_rfl) hh (fun _ _ _ => rfl) (fun n R t K => by kernel_rfl) fuel
 exact HintOk.n1 (c := (cB (cR (cL (cR (bodyOf Tryz.f193)))))) (h := .s (gq193.S1)) (P := Tryz.prog) (E := gq193.E) (by kernel_rfl) h
theorem gq193.hok (hE : EOk Tryz.prog (gq193.E)) : HintOk Tryz.prog gq193.E (bodyOf Tryz.f193) (.n (.a) (.n (.n (.a) (.b (.s (gq193.S1)))) (.a))) := HintOk.n1 (Q := (True) ∧ (((True) ∧ (SumOk Tryz.prog gq193.E (cB (cR (cL (cR (bodyOf Tryz.f193))))) (gq193.S1))) ∧ (True))) (by kernel_rfl) ⟨trivial, ⟨⟨trivial, (gq193.ok1 hE)⟩, trivial⟩⟩
theorem gq193.hE : EOk Tryz.prog (gq193.E) := EOk.of ttOk (trivial)
theorem gq193.fok : FOk Tryz.prog 193 gq193.fi :=
 fokS (E := gq193.E) (wy := ⟨[[none]], [[]], []⟩) (h := (fun gs => .n (.a) (.n (.n (.a) (.b (.s (gq193.S1)))) (.a)))) (G := fun t g => gq193.F (fun y0 => g y0) t.1) (by kernel_rfl) gq193.hE Tryz.func193 (by kernel_rfl) rfl (Nat.le_refl _) (fun t => HintOk.n1 (by kernel_rfl) (gq193.hok gq193.hE)) (fun t g => gq193.F_nat g (fun y0 => some y0) _) (fun t => by kernel_rfl)
def gq185.F {R : Type} (kk : Bool → Option R) (members : List Int) : Option R :=
 cond (decide ((List.length members : Int) > (0 : Int))) (
  (gq192 members).bind fun r =>
  cond (r) (
   (gq193 members).bind fun r1 =>
   kk r1) (kk false)) (kk false)
theorem gq185.F_nat {R S : Type} (g : R → Option S) (kk : Bool → Option R) (members) : gq185.F (fun y0 => (kk y0).bind g) members = (gq185.F kk members).bind g := by
 simp only [gq185.F, grd_bind, cnd_bind, bnd_bind, non_bind]
def gq185 (members : List Int) : Option Bool := gq185.F (fun y0 => some y0) members
def gq185.out : Bool → CRes := fun a => ⟨encL SV.enc [.one (.bool)] (a, ()), [encL SC.enc [] ()]⟩
def gq185.ps : List PS := [.val [some ((.int .i64), false)]]
def gq185.sA : List SA := [.v (.one (.slv [] (.int .i64)))]
def gq185.fi : FI := FIs gq185.sA (Bool) (fun t => gq185 t.1) gq185.out gq185.ps
def gq185.E : Env := ⟨tt, lkF [(192, gq192.fi), (193, gq193.fi)], 14, 0, [], []⟩
theorem gq185.hok (hE : EOk Tryz.prog (gq185.E)) : HintOk Tryz.prog gq185.E (bodyOf Tryz.f185) (.a) := HintOk.n1 (Q := True) (by kernel_rfl) trivial
theorem gq185.hE : EOk Tryz.prog (gq185.E) := EOk.of ttOk (⟨gq192.fok, ⟨gq193.fok, trivial⟩⟩)
theorem gq185.fok : FOk Tryz.prog 185 gq185.fi :=
 fokS (E := gq185.E) (wy := ⟨[[none]], [[]], []⟩) (h := (fun gs => .a)) (G := fun t g => gq185.F (fun y0 => g y0) t.1) (by kernel_rfl) gq185.hE Tryz.func185 (by kernel_rfl) rfl (Nat.le_refl _) (fun t => HintOk.n1 (by kernel_rfl) (gq185.hok gq185.hE)) (fun t g => gq185.F_nat g (fun y0 => some y0) _) (fun t => by kernel_rfl)
def gq166.l1 {R : Type} (kke0 : List Int → Option R) : Nat → ByteArray → Int → Int → List Int → Option R
 | 0, _, _, _, _ => none
 | n + 1, data, i, i1, out =>
  cond (decide (i1 < i)) (
   grd (gIx i1 (ByteArray.size data)) <|
   grd (gRm (((List.length out) + (List.length [IntKind.wrap .i64 (byteAt data i1)])) * 8)) <|
   gq166.l1 kke0 n data i (IntKind.wrap .i64 (i1 + (1 : Int))) (out ++ [IntKind.wrap .i64 (byteAt data i1)])) (kke0 out)
theorem gq166.l1_nat {R S : Type} (g : R → Option S) (kke0 : List Int → Option R) : ∀ n data i i1 out, gq166.l1 (fun y0 => (kke0 y0).bind g) n data i i1 out = (gq166.l1 kke0 n data i i1 out).bind g := by
 intro n
 induction n with
 | zero => intros; rfl
 | succ n ih => intros; simp only [gq166.l1, grd_bind, cnd_bind, bnd_bind, non_bind, ih]
def gq166.F {R : Type} (kk : List Int → Bool → Option R) (data : ByteArray) : Option R :=
 gq166.l1 (fun out =>
  (gq185 out).bind fun r =>
  kk out r) fuel data (ByteArray.size data : Int) (0 : Int) ([] : List Int)
theorem gq166.F_nat {R S : Type} (g : R → Option S) (kk : List Int → Bool → Option R) (data) : gq166.F (fun y0 y1 => (kk y0 y1).bind g) data = (gq166.F kk data).bind g := by
 simp only [gq166.F, grd_bind, cnd_bind, bnd_bind, non_bind, ← gq166.l1_nat]
def gq166 (data : ByteArray) : Option (List Int × Bool) := gq166.F (fun y0 y1 => some (y0, y1)) data
def gq166.out : (List Int × Bool) → CRes := fun a => ⟨encL SV.enc [.one (.own [] (.int .i64) true), .one (.bool)] (a.1, a.2, ()), [encL SC.enc [] ()]⟩
def gq166.ps : List PS := [.val [none]]
def gq166.sA : List SA := [.v (.one (.str))]
def gq166.fi : FI := FIs gq166.sA (List Int × Bool) (fun t => gq166 t.1) gq166.out gq166.ps
def gq166.E : Env := ⟨tt, lkF [(185, gq185.fi)], 23, 0, [], []⟩
def gq166.sh1 : SK := ⟨[.v (.one (.str)), .v (.one (.slo 0)), .v (.one (.int .i64)), .v (.one (.int .i64))], [.arr (.int .i64) [] true]⟩
def gq166.sh1e0 : SK := ⟨[.v (.one (.slo 0))], [.arr (.int .i64) [] true]⟩
def gq166.ko1 : Ex → List CastAt × List Nat
 | .nrm => ([], [])
 | .ret => ([], [])
 | .ext i => cond (Nat.beq i 0) ([], [4]) ([], [])
def gq166.G1 (n : Nat) (R : Type) (t : gq166.sh1.T) (K : Ex → Kp → Option R) : Option R := gq166.l1 (fun y0 => K (.ext 0) (SK.enc gq166.sh1e0 (((), ()), (y0, ())))) n t.1.1 t.1.2.2.1 t.1.2.2.2.1 t.2.1
def gq166.S1 : Sum := ⟨([], [0, 4, 8, 9]), sumF gq166.sh1 (gq166.G1 fuel), gq166.ko1⟩
theorem gq166.ok1 (hE : EOk Tryz.prog (gq166.E)) : SumOk Tryz.prog gq166.E (cB (cR (cL (cR (cR (bodyOf Tryz.f166)))))) (gq166.S1) := by
 have hh : HintOk Tryz.prog gq166.E (cB (cB (cR (cL (cR (cR (bodyOf Tryz.f166))))))) (.a) := HintOk.n1 (Q := True) (by kernel_rfl) trivial
 have h := loopS (kin := ([], [0, 4, 8, 9])) (kout := gq166.ko1) (sh := gq166.sh1) (F := gq166.G1) (ops_ok (hE.gv _)) (by kernel_rfl) hh (fun _ _ _ => rfl) (fun n R t K => by kernel_rfl) fuel
 exact HintOk.n1 (c := (cB (cR (cL (cR (cR (bodyOf Tryz.f166))))))) (h := .s (gq166.S1)) (P := Tryz.prog) (E := gq166.E) (by kernel_rfl) h
theorem gq166.hok (hE : EOk Tryz.prog (gq166.E)) : HintOk Tryz.prog gq166.E (bodyOf Tryz.f166) (.n (.a) (.n (.a) (.n (.n (.a) (.b (.s (gq166.S1)))) (.a)))) := HintOk.n1 (Q := (True) ∧ ((True) ∧ (((True) ∧ (SumOk Tryz.prog gq166.E (cB (cR (cL (cR (cR (bodyOf Tryz.f166)))))) (gq166.S1))) ∧ (True)))) (by kernel_rfl) ⟨trivial, ⟨trivial, ⟨⟨trivial, (gq166.ok1 hE)⟩, trivial⟩⟩⟩
theorem gq166.hE : EOk Tryz.prog (gq166.E) := EOk.of ttOk (⟨gq185.fok, trivial⟩)
theorem gq166.fok : FOk Tryz.prog 166 gq166.fi :=
 fokS (E := gq166.E) (wy := ⟨[[some ((.int .i64), true)], [none]], [[]], []⟩) (h := (fun gs => .n (.a) (.n (.a) (.n (.n (.a) (.b (.s (gq166.S1)))) (.a))))) (G := fun t g => gq166.F (fun y0 y1 => g (y0, y1)) t.1) (by kernel_rfl) gq166.hE Tryz.func166 (by kernel_rfl) rfl (Nat.le_refl _) (fun t => HintOk.n1 (by kernel_rfl) (gq166.hok gq166.hE)) (fun t g => gq166.F_nat g (fun y0 y1 => some (y0, y1)) _) (fun t => by kernel_rfl)
def gq146.F {R : Type} (kk : Bool → Option R) (e_Term : Int) (e_Kind : Int) (e_Data : ByteArray) : Option R :=
 (gq67 e_Term (1 : Int) (1000000 : Int)).bind fun r =>
 cond (!r) (kk false) (
  cond (e_Kind == (0 : Int)) (kk (sEq e_Data ByteArray.empty)) (
   cond (e_Kind == (1 : Int)) (
    (gq67 (ByteArray.size e_Data : Int) (1 : Int) (100 : Int)).bind fun r1 =>
    kk r1) (
    cond (e_Kind == (2 : Int)) (
     (gq166 e_Data).bind fun r2 =>
     kk r2.2) (kk false))))
theorem gq146.F_nat {R S : Type} (g : R → Option S) (kk : Bool → Option R) (e_Term e_Kind e_Data) : gq146.F (fun y0 => (kk y0).bind g) e_Term e_Kind e_Data = (gq146.F kk e_Term e_Kind e_Data).bind g := by
 simp only [gq146.F, grd_bind, cnd_bind, bnd_bind, non_bind]
def gq146 (e_Term : Int) (e_Kind : Int) (e_Data : ByteArray) : Option Bool := gq146.F (fun y0 => some y0) e_Term e_Kind e_Data
def gq146.out : Bool → CRes := fun a => ⟨encL SV.enc [.one (.bool)] (a, ()), [encL SC.enc [] ()]⟩
def gq146.ps : List PS := [.val [none, none, none]]
def gq146.sA : List SA := [.v (.agg [.int .i64, .int .i64, .str])]
def gq146.fi : FI := FIs gq146.sA (Bool) (fun t => gq146 t.1.1 t.1.2.1 t.1.2.2.1) gq146.out gq146.ps
def gq146.E : Env := ⟨tt, lkF [(67, gq67.fi), (166, gq166.fi)], 31, 0, [], []⟩
theorem gq146.hok (hE : EOk Tryz.prog (gq146.E)) : HintOk Tryz.prog gq146.E (bodyOf Tryz.f146) (.a) := HintOk.n1 (Q := True) (by kernel_rfl) trivial
theorem gq146.hE : EOk Tryz.prog (gq146.E) := EOk.of ttOk (⟨gq67.fok, ⟨gq166.fok, trivial⟩⟩)
theorem gq146.fok : FOk Tryz.prog 146 gq146.fi :=
 fokS (E := gq146.E) (wy := ⟨[[none]], [[]], []⟩) (h := (fun gs => .a)) (G := fun t g => gq146.F (fun y0 => g y0) t.1.1 t.1.2.1 t.1.2.2.1) (by kernel_rfl) gq146.hE Tryz.func146 (by kernel_rfl) rfl (Nat.le_refl _) (fun t => HintOk.n1 (by kernel_rfl) (gq146.hok gq146.hE)) (fun t g => gq146.F_nat g (fun y0 => some y0) _ _ _) (fun t => by kernel_rfl)
def gq92.l1 {R : Type} (kke0 : List (El kkb53) → Option R) (kkr : Bool → Option R) : Nat → List (El kkb53) → Int → List (El kkb53) → Int → Int → Option R
 | 0, _, _, _, _, _ => none
 | n + 1, log, term, l, i, i1 =>
  cond (decide (i1 < i)) (
   grd (gIx i1 (List.length l)) <|
   (gq146 ((rdE kkb53 l (Int.toNat i1)).1) ((rdE kkb53 l (Int.toNat i1)).2.1) ((rdE kkb53 l (Int.toNat i1)).2.2)).bind fun r =>
   cond (!r) (kkr false) (
    cond (decide ((rdE kkb53 l (Int.toNat i1)).1 > term)) (kkr false) (
     cond (decide (i1 > (0 : Int))) (
      grd (gIx (IntKind.wrap .i64 (i1 - (1 : Int))) (List.length log)) <|
      cond (decide ((rdE kkb53 log (Int.toNat (IntKind.wrap .i64 (i1 - (1 : Int))))).1 > (rdE kkb53 l (Int.toNat i1)).1)) (kkr false) (gq92.l1 kke0 kkr n log term l i (IntKind.wrap .i64 (i1 + (1 : Int))))) (gq92.l1 kke0 kkr n log term l i (IntKind.wrap .i64 (i1 + (1 : Int))))))) (kke0 log)
theorem gq92.l1_nat {R S : Type} (g : R → Option S) (kke0 : List (El kkb53) → Option R) (kkr : Bool → Option R) : ∀ n log term l i i1, gq92.l1 (fun y0 => (kke0 y0).bind g) (fun y0 => (kkr y0).bind g) n log term l i i1 = (gq92.l1 kke0 kkr n log term l i i1).bind g := by
 intro n
 induction n with
 | zero => intros; rfl
 | succ n ih => intros; simp only [gq92.l1, grd_bind, cnd_bind, bnd_bind, non_bind, ih]
def gq92.F {R : Type} (kk : Bool → Option R) (log : List (El kkb53)) (term : Int) : Option R :=
 gq92.l1 (fun log1 => kk (decide ((List.length log1 : Int) ≤ (60 : Int)))) (fun b => kk b) fuel log term log (List.length log : Int) (0 : Int)
theorem gq92.F_nat {R S : Type} (g : R → Option S) (kk : Bool → Option R) (log term) : gq92.F (fun y0 => (kk y0).bind g) log term = (gq92.F kk log term).bind g := by
 simp only [gq92.F, grd_bind, cnd_bind, bnd_bind, non_bind, ← gq92.l1_nat]
def gq92 (log : List (El kkb53)) (term : Int) : Option Bool := gq92.F (fun y0 => some y0) log term
def gq92.out : Bool → CRes := fun a => ⟨encL SV.enc [.one (.bool)] (a, ()), [encL SC.enc [] (), encL SC.enc [] ()]⟩
def gq92.ps : List PS := [.val [some (kkb53, false)], .val [none]]
def gq92.sA : List SA := [.v (.one (.slv [] kkb53)), .v (.one (.int .i64))]
def gq92.fi : FI := FIs gq92.sA (Bool) (fun t => gq92 t.1 t.2.1) gq92.out gq92.ps
def gq92.E : Env := ⟨tt, lkF [(146, gq146.fi)], 42, 0, [], []⟩
def gq92.sh1 : SK := ⟨[.v (.one (.slv [1] kkb53)), .v (.one (.int .i64)), .v (.one (.slv [1] kkb53)), .v (.one (.int .i64)), .v (.one (.int .i64))], []⟩
def gq92.sh1e0 : SK := ⟨[.v (.one (.slv [1] kkb53))], []⟩
def gq92.sh1r : SK := ⟨[.v (.one (.bool))], []⟩
def gq92.ko1 : Ex → List CastAt × List Nat
 | .nrm => ([], [])
 | .ret => ([], [4])
 | .ext i => cond (Nat.beq i 0) ([], [0]) ([], [])
def gq92.G1 (n : Nat) (R : Type) (t : gq92.sh1.T) (K : Ex → Kp → Option R) : Option R := gq92.l1 (fun y0 => K (.ext 0) (SK.enc gq92.sh1e0 ((y0, ()), ()))) (fun y0 => K .ret (SK.enc gq92.sh1r ((y0, ()), ()))) n t.1.1 t.1.2.1 t.1.2.2.1 t.1.2.2.2.1 t.1.2.2.2.2.1
def gq92.S1 : Sum := ⟨([], [0, 1, 7, 8, 9]), sumF gq92.sh1 (gq92.G1 fuel), gq92.ko1⟩
theorem gq92.ok1 (hE : EOk Tryz.prog (gq92.E)) : SumOk Tryz.prog gq92.E (cB (cR (cL (cR (bodyOf Tryz.f92))))) (gq92.S1) := by
 have hh : HintOk Tryz.prog gq92.E (cB (cB (cR (cL (cR (bodyOf Tryz.f92)))))) (.a) := HintOk.n1 (Q := True) (by kernel_rfl) trivial
 have h := loopS (kin := ([], [0, 1, 7, 8, 9])) (kout := gq92.ko1) (sh := gq92.sh1) (F := gq92.G1) (ops_ok (hE.gv _)) (by kernel_rfl) hh (fun _ _ _ => rfl) (fun n R t K => by kernel_rfl) fuel
 exact HintOk.n1 (c := (cB (cR (cL (cR (bodyOf Tryz.f92)))))) (h := .s (gq92.S1)) (P := Tryz.prog) (E := gq92.E) (by kernel_rfl) h
theorem gq92.hok (hE : EOk Tryz.prog (gq92.E)) : HintOk Tryz.prog gq92.E (bodyOf Tryz.f92) (.n (.a) (.n (.n (.a) (.b (.s (gq92.S1)))) (.a))) := HintOk.n1 (Q := (True) ∧ (((True) ∧ (SumOk Tryz.prog gq92.E (cB (cR (cL (cR (bodyOf Tryz.f92))))) (gq92.S1))) ∧ (True))) (by kernel_rfl) ⟨trivial, ⟨⟨trivial, (gq92.ok1 hE)⟩, trivial⟩⟩
theorem gq92.hE : EOk Tryz.prog (gq92.E) := EOk.of ttOk (⟨gq146.fok, trivial⟩)
theorem gq92.fok : FOk Tryz.prog 92 gq92.fi :=
 fokS (E := gq92.E) (wy := ⟨[[none]], [[], []], []⟩) (h := (fun gs => .n (.a) (.n (.n (.a) (.b (.s (gq92.S1)))) (.a)))) (G := fun t g => gq92.F (fun y0 => g y0) t.1 t.2.1) (by kernel_rfl) gq92.hE Tryz.func92 (by kernel_rfl) rfl (Nat.le_refl _) (fun t => HintOk.n1 (by kernel_rfl) (gq92.hok gq92.hE)) (fun t g => gq92.F_nat g (fun y0 => some y0) _ _) (fun t => by kernel_rfl)
def gq47.F {R : Type} (kk : Bool → Option R) (s_Term : Int) (s_Vote : Int) (s_Log : List (El kkb53)) : Option R :=
 (gq67 s_Term (0 : Int) (1000000 : Int)).bind fun r =>
 cond (r) (
  (gq67 s_Vote (-1 : Int) (6 : Int)).bind fun r1 =>
  cond (r1) (
   (gq92 s_Log s_Term).bind fun r2 =>
   kk r2) (kk false)) (kk false)
theorem gq47.F_nat {R S : Type} (g : R → Option S) (kk : Bool → Option R) (s_Term s_Vote s_Log) : gq47.F (fun y0 => (kk y0).bind g) s_Term s_Vote s_Log = (gq47.F kk s_Term s_Vote s_Log).bind g := by
 simp only [gq47.F, grd_bind, cnd_bind, bnd_bind, non_bind]
def gq47 (s_Term : Int) (s_Vote : Int) (s_Log : List (El kkb53)) : Option Bool := gq47.F (fun y0 => some y0) s_Term s_Vote s_Log
def gq47.out : Bool → CRes := fun a => ⟨encL SV.enc [.one (.bool)] (a, ()), [encL SC.enc [] ()]⟩
def gq47.ps : List PS := [.val [none, none, some (kkb53, false)]]
def gq47.sA : List SA := [.v (.agg [.int .i64, .int .i64, .slv [] kkb53])]
def gq47.fi : FI := FIs gq47.sA (Bool) (fun t => gq47 t.1.1 t.1.2.1 t.1.2.2.1) gq47.out gq47.ps
def gq47.E : Env := ⟨tt, lkF [(67, gq67.fi), (92, gq92.fi)], 18, 0, [], []⟩
theorem gq47.hok (hE : EOk Tryz.prog (gq47.E)) : HintOk Tryz.prog gq47.E (bodyOf Tryz.f47) (.a) := HintOk.n1 (Q := True) (by kernel_rfl) trivial
theorem gq47.hE : EOk Tryz.prog (gq47.E) := EOk.of ttOk (⟨gq67.fok, ⟨gq92.fok, trivial⟩⟩)
theorem gq47.fok : FOk Tryz.prog 47 gq47.fi :=
 fokS (E := gq47.E) (wy := ⟨[[none]], [[]], []⟩) (h := (fun gs => .a)) (G := fun t g => gq47.F (fun y0 => g y0) t.1.1 t.1.2.1 t.1.2.2.1) (by kernel_rfl) gq47.hE Tryz.func47 (by kernel_rfl) rfl (Nat.le_refl _) (fun t => HintOk.n1 (by kernel_rfl) (gq47.hok gq47.hE)) (fun t g => gq47.F_nat g (fun y0 => some y0) _ _ _) (fun t => by kernel_rfl)
def gq101.F {R : Type} (kk : List (El kFile) → Option R) (s : List (El kFile)) : Option R :=
 cond (List.isEmpty s) (
  agree (kk []) (
   grd (gRm (((List.length ([] : List (El kFile))) + (List.length s)) * 40)) <|
   kk (([] : List (El kFile)) ++ s))) (
  grd (gRm (((List.length ([] : List (El kFile))) + (List.length s)) * 40)) <|
  kk (([] : List (El kFile)) ++ s))
theorem gq101.F_nat {R S : Type} (g : R → Option S) (kk : List (El kFile) → Option R) (s) : gq101.F (fun y0 => (kk y0).bind g) s = (gq101.F kk s).bind g := by
 cases s with
 | nil =>
  have e : ∀ {R : Type} (k : List (El kFile) → Option R), gq101.F k [] = agree (k []) (k []) := fun k => by kernel_rfl
  rw [e, e, agree_self, agree_self]
 | cons x l => simp only [gq101.F, List.isEmpty_cons, cond_false, grd_bind]
def gq101 (s : List (El kFile)) : Option (List (El kFile)) := gq101.F (fun y0 => some y0) s
def gq101.out : (List (El kFile)) → CRes := fun a => ⟨encL SV.enc [.one (.own [] kFile true)] (a, ()), [encL SC.enc [] ()]⟩
def gq101.ps : List PS := [.val [some (kFile, false)]]
def gq101.sA : List SA := [.v (.one (.slv [] kFile))]
def gq101.fi : FI := FIs gq101.sA (List (El kFile)) (fun t => gq101 t.1) gq101.out gq101.ps
def gq101.E : Env := ⟨tt, lkF [], 8, 0, [], []⟩
theorem gq101.hok (hE : EOk Tryz.prog (gq101.E)) : HintOk Tryz.prog gq101.E (bodyOf Tryz.f101) (.a) := HintOk.n1 (Q := True) (by kernel_rfl) trivial
theorem gq101.hE : EOk Tryz.prog (gq101.E) := EOk.of ttOk (trivial)
theorem gq101.fok : FOk Tryz.prog 101 gq101.fi :=
 fokS (E := gq101.E) (wy := ⟨[[some (kFile, true)]], [[]], []⟩) (h := (fun gs => .a)) (G := fun t g => gq101.F (fun y0 => g y0) t.1) (by kernel_rfl) gq101.hE Tryz.func101 (by kernel_rfl) rfl (Nat.le_refl _) (fun t => HintOk.n1 (by kernel_rfl) (gq101.hok gq101.hE)) (fun t g => gq101.F_nat g (fun y0 => some y0) _) (fun t => by kernel_rfl)
def gq53.F {R : Type} (kk : Int → List (El kFile) → Option R) (d_Room : Int) (d_Files : List (El kFile)) : Option R :=
 (gq101 d_Files).bind fun r =>
 kk d_Room r
theorem gq53.F_nat {R S : Type} (g : R → Option S) (kk : Int → List (El kFile) → Option R) (d_Room d_Files) : gq53.F (fun y0 y1 => (kk y0 y1).bind g) d_Room d_Files = (gq53.F kk d_Room d_Files).bind g := by
 simp only [gq53.F, grd_bind, cnd_bind, bnd_bind, non_bind]
def gq53 (d_Room : Int) (d_Files : List (El kFile)) : Option (Int × List (El kFile)) := gq53.F (fun y0 y1 => some (y0, y1)) d_Room d_Files
def gq53.out : (Int × List (El kFile)) → CRes := fun a => ⟨encL SV.enc [.agg [.int .i64, .own [] kFile true]] ((a.1, a.2, ()), ()), [encL SC.enc [] ()]⟩
def gq53.ps : List PS := [.val [none, some (kFile, false)]]
def gq53.sA : List SA := [.v (.agg [.int .i64, .slv [] kFile])]
def gq53.fi : FI := FIs gq53.sA (Int × List (El kFile)) (fun t => gq53 t.1.1 t.1.2.1) gq53.out gq53.ps
def gq53.E : Env := ⟨tt, lkF [(101, gq101.fi)], 9, 0, [], []⟩
theorem gq53.hok (hE : EOk Tryz.prog (gq53.E)) : HintOk Tryz.prog gq53.E (bodyOf Tryz.f53) (.a) := HintOk.n1 (Q := True) (by kernel_rfl) trivial
theorem gq53.hE : EOk Tryz.prog (gq53.E) := EOk.of ttOk (⟨gq101.fok, trivial⟩)
theorem gq53.fok : FOk Tryz.prog 53 gq53.fi :=
 fokS (E := gq53.E) (wy := ⟨[[none, some (kFile, true)]], [[]], []⟩) (h := (fun gs => .a)) (G := fun t g => gq53.F (fun y0 y1 => g (y0, y1)) t.1.1 t.1.2.1) (by kernel_rfl) gq53.hE Tryz.func53 (by kernel_rfl) rfl (Nat.le_refl _) (fun t => HintOk.n1 (by kernel_rfl) (gq53.hok gq53.hE)) (fun t g => gq53.F_nat g (fun y0 y1 => some (y0, y1)) _ _) (fun t => by kernel_rfl)
def gq113.l1 {R : Type} (kke0 : Int → Option R) : Nat → Int → List (El kFile) → Int → Int → Option R
 | 0, _, _, _, _ => none
 | n + 1, sum, l, i, i1 =>
  cond (decide (i1 < i)) (
   grd (gIx i1 (List.length l)) <|
   gq113.l1 kke0 n (IntKind.wrap .i64 (sum + (ByteArray.size (rdE kFile l (Int.toNat i1)).2.1 : Int))) l i (IntKind.wrap .i64 (i1 + (1 : Int)))) (kke0 sum)
theorem gq113.l1_nat {R S : Type} (g : R → Option S) (kke0 : Int → Option R) : ∀ n sum l i i1, gq113.l1 (fun y0 => (kke0 y0).bind g) n sum l i i1 = (gq113.l1 kke0 n sum l i i1).bind g := by
 intro n
 induction n with
 | zero => intros; rfl
 | succ n ih => intros; simp only [gq113.l1, grd_bind, cnd_bind, bnd_bind, non_bind, ih]
def gq113.F {R : Type} (kk : Int → Option R) (d_Room : Int) (d_Files : List (El kFile)) : Option R :=
 gq113.l1 (fun sum => kk sum) fuel (0 : Int) d_Files (List.length d_Files : Int) (0 : Int)
theorem gq113.F_nat {R S : Type} (g : R → Option S) (kk : Int → Option R) (d_Room d_Files) : gq113.F (fun y0 => (kk y0).bind g) d_Room d_Files = (gq113.F kk d_Room d_Files).bind g := by
 simp only [gq113.F, grd_bind, cnd_bind, bnd_bind, non_bind, ← gq113.l1_nat]
def gq113 (d_Room : Int) (d_Files : List (El kFile)) : Option Int := gq113.F (fun y0 => some y0) d_Room d_Files
def gq113.out : Int → CRes := fun a => ⟨encL SV.enc [.one (.int .i64)] (a, ()), [encL SC.enc [] ()]⟩
def gq113.ps : List PS := [.val [none, some (kFile, false)]]
def gq113.sA : List SA := [.v (.agg [.int .i64, .slv [] kFile])]
def gq113.fi : FI := FIs gq113.sA (Int) (fun t => gq113 t.1.1 t.1.2.1) gq113.out gq113.ps
def gq113.E : Env := ⟨tt, lkF [], 20, 0, [], []⟩
def gq113.sh1 : SK := ⟨[.v (.one (.int .i64)), .v (.one (.slv [1] kFile)), .v (.one (.int .i64)), .v (.one (.int .i64))], []⟩
def gq113.sh1e0 : SK := ⟨[.v (.one (.int .i64))], []⟩
def gq113.ko1 : Ex → List CastAt × List Nat
 | .nrm => ([], [])
 | .ret => ([], [])
 | .ext i => cond (Nat.beq i 0) ([], [3]) ([], [])
def gq113.G1 (n : Nat) (R : Type) (t : gq113.sh1.T) (K : Ex → Kp → Option R) : Option R := gq113.l1 (fun y0 => K (.ext 0) (SK.enc gq113.sh1e0 ((y0, ()), ()))) n t.1.1 t.1.2.1 t.1.2.2.1 t.1.2.2.2.1
def gq113.S1 : Sum := ⟨([], [3, 7, 8, 9]), sumF gq113.sh1 (gq113.G1 fuel), gq113.ko1⟩
theorem gq113.ok1 (hE : EOk Tryz.prog (gq113.E)) : SumOk Tryz.prog gq113.E (cB (cR (cL (cR (cR (bodyOf Tryz.f113)))))) (gq113.S1) := by
 have hh : HintOk Tryz.prog gq113.E (cB (cB (cR (cL (cR (cR (bodyOf Tryz.f113))))))) (.a) := HintOk.n1 (Q := True) (by kernel_rfl) trivial
 have h := loopS (kin := ([], [3, 7, 8, 9])) (kout := gq113.ko1) (sh := gq113.sh1) (F := gq113.G1) (ops_ok (hE.gv _)) (by kernel_rfl) hh (fun _ _ _ => rfl) (fun n R t K => by kernel_rfl) fuel
 exact HintOk.n1 (c := (cB (cR (cL (cR (cR (bodyOf Tryz.f113))))))) (h := .s (gq113.S1)) (P := Tryz.prog) (E := gq113.E) (by kernel_rfl) h
theorem gq113.hok (hE : EOk Tryz.prog (gq113.E)) : HintOk Tryz.prog gq113.E (bodyOf Tryz.f113) (.n (.a) (.n (.a) (.n (.n (.a) (.b (.s (gq113.S1)))) (.a)))) := HintOk.n1 (Q := (True) ∧ ((True) ∧ (((True) ∧ (SumOk Tryz.prog gq113.E (cB (cR (cL (cR (cR (bodyOf Tryz.f113)))))) (gq113.S1))) ∧ (True)))) (by kernel_rfl) ⟨trivial, ⟨trivial, ⟨⟨trivial, (gq113.ok1 hE)⟩, trivial⟩⟩⟩
theorem gq113.hE : EOk Tryz.prog (gq113.E) := EOk.of ttOk (trivial)
theorem gq113.fok : FOk Tryz.prog 113 gq113.fi :=
 fokS (E := gq113.E) (wy := ⟨[[none]], [[]], []⟩) (h := (fun gs => .n (.a) (.n (.a) (.n (.n (.a) (.b (.s (gq113.S1)))) (.a))))) (G := fun t g => gq113.F (fun y0 => g y0) t.1.1 t.1.2.1) (by kernel_rfl) gq113.hE Tryz.func113 (by kernel_rfl) rfl (Nat.le_refl _) (fun t => HintOk.n1 (by kernel_rfl) (gq113.hok gq113.hE)) (fun t g => gq113.F_nat g (fun y0 => some y0) _ _) (fun t => by kernel_rfl)
end
end Go.Proofs.YtaanadbpnmcbcaaGreatDoorA
