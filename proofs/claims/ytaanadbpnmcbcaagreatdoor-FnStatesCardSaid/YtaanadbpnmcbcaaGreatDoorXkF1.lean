/-
  Functions of the program, and that the small machine's runs are these. No condition.
  Printed by wip/amp/main.py (a session's own program) out of Lean's print of the program; Lean's kernel checks it.
-/
import Derived.Test.YtaanadbpnmcbcaaGreatDoorXkF0
namespace Go.Proofs.YtaanadbpnmcbcaaGreatDoorA
open Go
noncomputable section
set_option linter.unusedVariables false
set_option linter.unusedSimpArgs false
set_option maxRecDepth 100000
def gq116.j1 {R : Type} (kkn : Bool → Int → Int → Bool → Int → Int → Int → ByteArray → ByteArray → Int → List ByteArray → List ByteArray → List ByteArray → Option R) (isLast : Bool) (used : Int) (code : Int) (number : Int) (r : Int) (r1 : Int) (r2 : Int) (f : ByteArray) (f1 : ByteArray) (f2 : Int) (frames : List ByteArray) (l : List ByteArray) (l1 : List ByteArray) : Option R :=
 cond (code != (0 : Int)) (
  cond (isLast) (kkn isLast used number (!(code == (16 : Int))) r r1 r2 f f1 f2 frames l l1) (kkn isLast used number true r r1 r2 f f1 f2 frames l l1)) (kkn isLast used number false r r1 r2 f f1 f2 frames l l1)
theorem gq116.j1_nat {R S : Type} (g : R → Option S) (kkn : Bool → Int → Int → Bool → Int → Int → Int → ByteArray → ByteArray → Int → List ByteArray → List ByteArray → List ByteArray → Option R) (isLast used code number r r1 r2 f f1 f2 frames l l1) : gq116.j1 (fun y0 y1 y2 y3 y4 y5 y6 y7 y8 y9 y10 y11 y12 => (kkn y0 y1 y2 y3 y4 y5 y6 y7 y8 y9 y10 y11 y12).bind g) isLast used code number r r1 r2 f f1 f2 frames l l1 = (gq116.j1 kkn isLast used code number r r1 r2 f f1 f2 frames l l1).bind g := by
 simp only [gq116.j1, grd_bind, cnd_bind, bnd_bind, non_bind]
def gq116.j2 {R : Type} (kkn : Int → Int → Int → Int → Int → ByteArray → ByteArray → Int → List ByteArray → List ByteArray → List ByteArray → Option R) (kkr : Int → Int → Int → Int → List ByteArray → List ByteArray → Option R) (isLast : Bool) (used : Int) (code : Int) (number : Int) (r : Int) (r1 : Int) (r2 : Int) (f : ByteArray) (f1 : ByteArray) (f2 : Int) (frames : List ByteArray) (l : List ByteArray) (l1 : List ByteArray) : Option R :=
 gq116.j1 (fun isLast1 used1 number1 b r3 r4 r5 f3 f4 f5 frames1 l2 l3 =>
  cond (b) (kkr (8 : Int) r3 r4 r5 l2 l3) (
   cond (decide (r5 > (0 : Int))) (
    cond (number1 != (IntKind.wrap .i64 (r5 + (1 : Int)))) (kkr (3 : Int) r3 r4 r5 l2 l3) (
     cond ((List.length frames1 : Int) == (0 : Int)) (
      cond (!isLast1) (kkr (3 : Int) r3 r4 r5 l2 l3) (kkn used1 number1 r3 r4 r5 f3 f4 f5 frames1 l2 l3)) (kkn used1 number1 r3 r4 r5 f3 f4 f5 frames1 l2 l3))) (
    cond ((List.length frames1 : Int) == (0 : Int)) (
     cond (!isLast1) (kkr (3 : Int) r3 r4 r5 l2 l3) (kkn used1 number1 r3 r4 r5 f3 f4 f5 frames1 l2 l3)) (kkn used1 number1 r3 r4 r5 f3 f4 f5 frames1 l2 l3)))) isLast used code number r r1 r2 f f1 f2 frames l l1
theorem gq116.j2_nat {R S : Type} (g : R → Option S) (kkn : Int → Int → Int → Int → Int → ByteArray → ByteArray → Int → List ByteArray → List ByteArray → List ByteArray → Option R) (kkr : Int → Int → Int → Int → List ByteArray → List ByteArray → Option R) (isLast used code number r r1 r2 f f1 f2 frames l l1) : gq116.j2 (fun y0 y1 y2 y3 y4 y5 y6 y7 y8 y9 y10 => (kkn y0 y1 y2 y3 y4 y5 y6 y7 y8 y9 y10).bind g) (fun y0 y1 y2 y3 y4 y5 => (kkr y0 y1 y2 y3 y4 y5).bind g) isLast used code number r r1 r2 f f1 f2 frames l l1 = (gq116.j2 kkn kkr isLast used code number r r1 r2 f f1 f2 frames l l1).bind g := by
 simp only [gq116.j2, grd_bind, cnd_bind, bnd_bind, non_bind, ← gq116.j1_nat]
def gq116.j3 {R : Type} (kkn : Int → Int → Int → Int → List ByteArray → List ByteArray → List ByteArray → Option R) (kkr : Int → Int → Int → Int → List ByteArray → List ByteArray → Option R) (first : Int) (r : Int) (r1 : Int) (r2 : Int) (frames : List ByteArray) (l : List ByteArray) (l1 : List ByteArray) : Option R :=
 grd (gIx (0 : Int) (List.length frames)) <|
 cond ((ByteArray.size (rdE (.str : Kd) frames (Int.toNat (0 : Int))) : Int) != (4 : Int)) (kkr (3 : Int) r r1 r2 l l1) (
  cond (decide ((List.length l1 : Int) > (1 : Int))) (
   (gq153 r l l1 r1).bind fun r3 =>
   cond (first != r3) (kkr (3 : Int) r r1 r2 l l1) (kkn first r r1 r2 frames l l1)) (kkn first r r1 r2 frames l l1))
theorem gq116.j3_nat {R S : Type} (g : R → Option S) (kkn : Int → Int → Int → Int → List ByteArray → List ByteArray → List ByteArray → Option R) (kkr : Int → Int → Int → Int → List ByteArray → List ByteArray → Option R) (first r r1 r2 frames l l1) : gq116.j3 (fun y0 y1 y2 y3 y4 y5 y6 => (kkn y0 y1 y2 y3 y4 y5 y6).bind g) (fun y0 y1 y2 y3 y4 y5 => (kkr y0 y1 y2 y3 y4 y5).bind g) first r r1 r2 frames l l1 = (gq116.j3 kkn kkr first r r1 r2 frames l l1).bind g := by
 simp only [gq116.j3, grd_bind, cnd_bind, bnd_bind, non_bind]
def gq116.j4 {R : Type} (kkn : Int → Int → Int → List ByteArray → List ByteArray → List ByteArray → Option R) (first : Int) (r : Int) (r1 : Int) (r2 : Int) (frames : List ByteArray) (l : List ByteArray) (l1 : List ByteArray) : Option R :=
 cond ((List.length l1 : Int) == (1 : Int)) (kkn first r1 r2 frames l l1) (kkn r r1 r2 frames l l1)
theorem gq116.j4_nat {R S : Type} (g : R → Option S) (kkn : Int → Int → Int → List ByteArray → List ByteArray → List ByteArray → Option R) (first r r1 r2 frames l l1) : gq116.j4 (fun y0 y1 y2 y3 y4 y5 => (kkn y0 y1 y2 y3 y4 y5).bind g) first r r1 r2 frames l l1 = (gq116.j4 kkn first r r1 r2 frames l l1).bind g := by
 simp only [gq116.j4, grd_bind, cnd_bind, bnd_bind, non_bind]
def gq116.F {R : Type} (kk : Int → Int → List ByteArray → List ByteArray → Int → Int → Option R) (r_wal_First : Int) (r_wal_Records : List ByteArray) (r_wal_Names : List ByteArray) (r_wal_Torn : Int) (r_last : Int) (f_Name : ByteArray) (f_Data : ByteArray) (f_Sure : Int) (isLast : Bool) : Option R :=
 (gq102 f_Data).bind fun r =>
 (gq115 f_Name).bind fun r1 =>
 gq116.j2 (fun used number r2 r3 r4 f f1 f2 frames l l1 =>
  grd (gRm (((List.length l1) + (List.length [f])) * 16)) <|
  cond ((List.length frames : Int) == (0 : Int)) (kk (0 : Int) r2 l (l1 ++ [f]) (IntKind.wrap .i64 ((ByteArray.size f1 : Int) - used)) number) (
   grd (gIx (0 : Int) (List.length frames)) <|
   (gq103 (rdE (.str : Kd) frames (Int.toNat (0 : Int)))).bind fun r5 =>
   gq116.j3 (fun first r6 r7 r8 frames1 l2 l3 =>
    gq116.j4 (fun r9 r10 r11 frames2 l4 l5 =>
     grd (gSl (1 : Int) (List.length frames2 : Int) (List.length frames2)) <|
     grd (gRm (((List.length l4) + (List.length (sub frames2 (1 : Int) (List.length frames2 : Int)))) * 16)) <|
     kk (0 : Int) r9 (l4 ++ (sub frames2 (1 : Int) (List.length frames2 : Int))) l5 r10 r11) first r6 r7 r8 frames1 l2 l3) (fun i r12 r13 r14 l6 l7 => kk i r12 l6 l7 r13 r14) r5 r2 (IntKind.wrap .i64 ((ByteArray.size f1 : Int) - used)) number frames l (l1 ++ [f]))) (fun i1 r15 r16 r17 l8 l9 => kk i1 r15 l8 l9 r16 r17) isLast r.2.1 r.2.2 r1 r_wal_First r_wal_Torn r_last f_Name f_Data f_Sure r.1 r_wal_Records r_wal_Names
theorem gq116.F_nat {R S : Type} (g : R → Option S) (kk : Int → Int → List ByteArray → List ByteArray → Int → Int → Option R) (r_wal_First r_wal_Records r_wal_Names r_wal_Torn r_last f_Name f_Data f_Sure isLast) : gq116.F (fun y0 y1 y2 y3 y4 y5 => (kk y0 y1 y2 y3 y4 y5).bind g) r_wal_First r_wal_Records r_wal_Names r_wal_Torn r_last f_Name f_Data f_Sure isLast = (gq116.F kk r_wal_First r_wal_Records r_wal_Names r_wal_Torn r_last f_Name f_Data f_Sure isLast).bind g := by
 simp only [gq116.F, grd_bind, cnd_bind, bnd_bind, non_bind, ← gq116.j2_nat, ← gq116.j3_nat, ← gq116.j4_nat]
def gq116 (r_wal_First : Int) (r_wal_Records : List ByteArray) (r_wal_Names : List ByteArray) (r_wal_Torn : Int) (r_last : Int) (f_Name : ByteArray) (f_Data : ByteArray) (f_Sure : Int) (isLast : Bool) : Option (Int × Int × List ByteArray × List ByteArray × Int × Int) := gq116.F (fun y0 y1 y2 y3 y4 y5 => some (y0, y1, y2, y3, y4, y5)) r_wal_First r_wal_Records r_wal_Names r_wal_Torn r_last f_Name f_Data f_Sure isLast
def gq116.out : (Int × Int × List ByteArray × List ByteArray × Int × Int) → CRes := fun a => ⟨encL SV.enc [.one (.int .i64)] (a.1, ()), [encL SC.enc [.int .i64, .own [] .str true, .own [] .str true, .int .i64, .int .i64] (a.2.1, a.2.2.1, a.2.2.2.1, a.2.2.2.2.1, a.2.2.2.2.2, ()), encL SC.enc [] (), encL SC.enc [] ()]⟩
def gq116.ps : List PS := [.ptr [none, some (.str, true), some (.str, true), none, none], .val [none, none, none], .val [none]]
def gq116.sA : List SA := [.ptr [.int .i64, .own [] .str true, .own [] .str true, .int .i64, .int .i64], .v (.agg [.str, .str, .int .i64]), .v (.one (.bool))]
def gq116.fi : FI := FIs gq116.sA (Int × Int × List ByteArray × List ByteArray × Int × Int) (fun t => gq116 t.1.1 t.1.2.1 t.1.2.2.1 t.1.2.2.2.1 t.1.2.2.2.2.1 t.2.1.1 t.2.1.2.1 t.2.1.2.2.1 t.2.2.1) gq116.out gq116.ps
def gq116.E : Env := ⟨tt, lkF [(102, gq102.fi), (103, gq103.fi), (115, gq115.fi), (153, gq153.fi)], 137, 1, [], []⟩
def gq116.sh1 : SK := ⟨[.v (.one (.bptr 0 0)), .v (.one (.bool)), .v (.one (.bptr 1 0)), .v (.one (.slo 2)), .v (.one (.int .i64)), .v (.one (.int .i64)), .v (.one (.int .i64))], [.box [.int .i64, .slo 3, .slo 4, .int .i64, .int .i64], .box [.str, .str, .int .i64], .arr .str [] true, .arr .str [] true, .arr .str [] true]⟩
def gq116.sh1n : SK := ⟨[.v (.one (.bptr 0 0)), .v (.one (.bool)), .v (.one (.bptr 1 0)), .v (.one (.slo 2)), .v (.one (.int .i64)), .v (.one (.int .i64)), .v (.one (.bool))], [.box [.int .i64, .slo 3, .slo 4, .int .i64, .int .i64], .box [.str, .str, .int .i64], .arr .str [] true, .arr .str [] true, .arr .str [] true]⟩
def gq116.ko1 : Ex → List CastAt × List Nat
 | .nrm => ([], [0, 2, 4, 7, 8, 10, 22])
 | .ret => ([], [])
 | .ext i => ([], [])
def gq116.G1 (R : Type) (t : gq116.sh1.T) (K : Ex → Kp → Option R) : Option R := gq116.j1 (fun y0 y1 y2 y3 y4 y5 y6 y7 y8 y9 y10 y11 y12 => K .nrm (SK.enc gq116.sh1n (((), y0, (), (), y1, y2, y3, ()), ((y4, (), (), y5, y6, ()), (y7, y8, y9, ()), y10, y11, y12, ())))) t.1.2.1 t.1.2.2.2.2.1 t.1.2.2.2.2.2.1 t.1.2.2.2.2.2.2.1 t.2.1.1 t.2.1.2.2.2.1 t.2.1.2.2.2.2.1 t.2.2.1.1 t.2.2.1.2.1 t.2.2.1.2.2.1 t.2.2.2.1 t.2.2.2.2.1 t.2.2.2.2.2.1
def gq116.S1 : Sum := ⟨([], [0, 2, 4, 7, 8, 9, 10]), sumF gq116.sh1 (gq116.G1), gq116.ko1⟩
theorem gq116.ok1 (hE : EOk Tryz.prog (gq116.E)) : SumOk Tryz.prog gq116.E (cL (cB (cL (cR (cR (cR (bodyOf Tryz.f116))))))) (gq116.S1) := by
 have hh : HintOk Tryz.prog gq116.E (cL (cB (cL (cR (cR (cR (bodyOf Tryz.f116))))))) (.a) := HintOk.n1 (Q := True) (by kernel_rfl) trivial
 exact sumS (kin := ([], [0, 2, 4, 7, 8, 9, 10])) (kout := gq116.ko1) (sh := gq116.sh1) (F := gq116.G1) (ops_ok (hE.gv _)) (by kernel_rfl) hh (fun R t K => by kernel_rfl)
def gq116.sh2 : SK := ⟨[.v (.one (.bptr 0 0)), .v (.one (.bool)), .v (.one (.bptr 1 0)), .v (.one (.slo 2)), .v (.one (.int .i64)), .v (.one (.int .i64)), .v (.one (.int .i64))], [.box [.int .i64, .slo 3, .slo 4, .int .i64, .int .i64], .box [.str, .str, .int .i64], .arr .str [] true, .arr .str [] true, .arr .str [] true]⟩
def gq116.sh2n : SK := ⟨[.v (.one (.bptr 0 0)), .v (.one (.bptr 1 0)), .v (.one (.slo 2)), .v (.one (.int .i64)), .v (.one (.int .i64))], [.box [.int .i64, .slo 3, .slo 4, .int .i64, .int .i64], .box [.str, .str, .int .i64], .arr .str [] true, .arr .str [] true, .arr .str [] true]⟩
def gq116.sh2r : SK := ⟨[.v (.one (.bptr 0 0)), .v (.one (.int .i64))], [.box [.int .i64, .slo 1, .slo 2, .int .i64, .int .i64], .arr .str [] true, .arr .str [] true]⟩
def gq116.ko2 : Ex → List CastAt × List Nat
 | .nrm => ([], [0, 4, 7, 8, 10])
 | .ret => ([], [0, 6])
 | .ext i => ([], [])
def gq116.G2 (R : Type) (t : gq116.sh2.T) (K : Ex → Kp → Option R) : Option R := gq116.j2 (fun y0 y1 y2 y3 y4 y5 y6 y7 y8 y9 y10 => K .nrm (SK.enc gq116.sh2n (((), (), (), y0, y1, ()), ((y2, (), (), y3, y4, ()), (y5, y6, y7, ()), y8, y9, y10, ())))) (fun y0 y1 y2 y3 y4 y5 => K .ret (SK.enc gq116.sh2r (((), y0, ()), ((y1, (), (), y2, y3, ()), y4, y5, ())))) t.1.2.1 t.1.2.2.2.2.1 t.1.2.2.2.2.2.1 t.1.2.2.2.2.2.2.1 t.2.1.1 t.2.1.2.2.2.1 t.2.1.2.2.2.2.1 t.2.2.1.1 t.2.2.1.2.1 t.2.2.1.2.2.1 t.2.2.2.1 t.2.2.2.2.1 t.2.2.2.2.2.1
def gq116.S2 : Sum := ⟨([], [0, 2, 4, 7, 8, 9, 10]), sumF gq116.sh2 (gq116.G2), gq116.ko2⟩
theorem gq116.ok2 (hE : EOk Tryz.prog (gq116.E)) : SumOk Tryz.prog gq116.E (cL (cR (cR (cR (bodyOf Tryz.f116))))) (gq116.S2) := by
 have hh : HintOk Tryz.prog gq116.E (cL (cR (cR (cR (bodyOf Tryz.f116))))) (.b (.n (.s (gq116.S1)) (.a))) := HintOk.n1 (Q := (SumOk Tryz.prog gq116.E (cL (cB (cL (cR (cR (cR (bodyOf Tryz.f116))))))) (gq116.S1)) ∧ (True)) (by kernel_rfl) ⟨(gq116.ok1 hE), trivial⟩
 exact sumS (kin := ([], [0, 2, 4, 7, 8, 9, 10])) (kout := gq116.ko2) (sh := gq116.sh2) (F := gq116.G2) (ops_ok (hE.gv _)) (by kernel_rfl) hh (fun R t K => by kernel_rfl)
def gq116.sh3 : SK := ⟨[.v (.one (.bptr 0 0)), .v (.one (.slo 1)), .v (.one (.int .i64))], [.box [.int .i64, .slo 2, .slo 3, .int .i64, .int .i64], .arr .str [] true, .arr .str [] true, .arr .str [] true]⟩
def gq116.sh3n : SK := ⟨[.v (.one (.bptr 0 0)), .v (.one (.slo 1)), .v (.one (.int .i64))], [.box [.int .i64, .slo 2, .slo 3, .int .i64, .int .i64], .arr .str [] true, .arr .str [] true, .arr .str [] true]⟩
def gq116.sh3r : SK := ⟨[.v (.one (.bptr 0 0)), .v (.one (.int .i64))], [.box [.int .i64, .slo 1, .slo 2, .int .i64, .int .i64], .arr .str [] true, .arr .str [] true]⟩
def gq116.ko3 : Ex → List CastAt × List Nat
 | .nrm => ([], [0, 7, 11])
 | .ret => ([], [0, 6])
 | .ext i => ([], [])
def gq116.G3 (R : Type) (t : gq116.sh3.T) (K : Ex → Kp → Option R) : Option R := gq116.j3 (fun y0 y1 y2 y3 y4 y5 y6 => K .nrm (SK.enc gq116.sh3n (((), (), y0, ()), ((y1, (), (), y2, y3, ()), y4, y5, y6, ())))) (fun y0 y1 y2 y3 y4 y5 => K .ret (SK.enc gq116.sh3r (((), y0, ()), ((y1, (), (), y2, y3, ()), y4, y5, ())))) t.1.2.2.1 t.2.1.1 t.2.1.2.2.2.1 t.2.1.2.2.2.2.1 t.2.2.1 t.2.2.2.1 t.2.2.2.2.1
def gq116.S3 : Sum := ⟨([], [0, 7, 11]), sumF gq116.sh3 (gq116.G3), gq116.ko3⟩
theorem gq116.ok3 (hE : EOk Tryz.prog (gq116.E)) : SumOk Tryz.prog gq116.E (cL (cR (cR (cR (cR (cR (cR (cR (bodyOf Tryz.f116))))))))) (gq116.S3) := by
 have hh : HintOk Tryz.prog gq116.E (cL (cR (cR (cR (cR (cR (cR (cR (bodyOf Tryz.f116))))))))) (.a) := HintOk.n1 (Q := True) (by kernel_rfl) trivial
 exact sumS (kin := ([], [0, 7, 11])) (kout := gq116.ko3) (sh := gq116.sh3) (F := gq116.G3) (ops_ok (hE.gv _)) (by kernel_rfl) hh (fun R t K => by kernel_rfl)
def gq116.sh4 : SK := ⟨[.v (.one (.bptr 0 0)), .v (.one (.slo 1)), .v (.one (.int .i64))], [.box [.int .i64, .slo 2, .slo 3, .int .i64, .int .i64], .arr .str [] true, .arr .str [] true, .arr .str [] true]⟩
def gq116.sh4n : SK := ⟨[.v (.one (.bptr 0 0)), .v (.one (.slo 1))], [.box [.int .i64, .slo 2, .slo 3, .int .i64, .int .i64], .arr .str [] true, .arr .str [] true, .arr .str [] true]⟩
def gq116.ko4 : Ex → List CastAt × List Nat
 | .nrm => ([], [0, 7])
 | .ret => ([], [])
 | .ext i => ([], [])
def gq116.G4 (R : Type) (t : gq116.sh4.T) (K : Ex → Kp → Option R) : Option R := gq116.j4 (fun y0 y1 y2 y3 y4 y5 => K .nrm (SK.enc gq116.sh4n (((), (), ()), ((y0, (), (), y1, y2, ()), y3, y4, y5, ())))) t.1.2.2.1 t.2.1.1 t.2.1.2.2.2.1 t.2.1.2.2.2.2.1 t.2.2.1 t.2.2.2.1 t.2.2.2.2.1
def gq116.S4 : Sum := ⟨([], [0, 7, 11]), sumF gq116.sh4 (gq116.G4), gq116.ko4⟩
theorem gq116.ok4 (hE : EOk Tryz.prog (gq116.E)) : SumOk Tryz.prog gq116.E (cL (cR (cR (cR (cR (cR (cR (cR (cR (bodyOf Tryz.f116)))))))))) (gq116.S4) := by
 have hh : HintOk Tryz.prog gq116.E (cL (cR (cR (cR (cR (cR (cR (cR (cR (bodyOf Tryz.f116)))))))))) (.a) := HintOk.n1 (Q := True) (by kernel_rfl) trivial
 exact sumS (kin := ([], [0, 7, 11])) (kout := gq116.ko4) (sh := gq116.sh4) (F := gq116.G4) (ops_ok (hE.gv _)) (by kernel_rfl) hh (fun R t K => by kernel_rfl)
theorem gq116.hok (hE : EOk Tryz.prog (gq116.E)) : HintOk Tryz.prog gq116.E (bodyOf Tryz.f116) (.n (.a) (.n (.a) (.n (.a) (.n (.s (gq116.S2)) (.n (.a) (.n (.a) (.n (.a) (.n (.s (gq116.S3)) (.n (.s (gq116.S4)) (.a)))))))))) := HintOk.n1 (Q := (True) ∧ ((True) ∧ ((True) ∧ ((SumOk Tryz.prog gq116.E (cL (cR (cR (cR (bodyOf Tryz.f116))))) (gq116.S2)) ∧ ((True) ∧ ((True) ∧ ((True) ∧ ((SumOk Tryz.prog gq116.E (cL (cR (cR (cR (cR (cR (cR (cR (bodyOf Tryz.f116))))))))) (gq116.S3)) ∧ ((SumOk Tryz.prog gq116.E (cL (cR (cR (cR (cR (cR (cR (cR (cR (bodyOf Tryz.f116)))))))))) (gq116.S4)) ∧ (True)))))))))) (by kernel_rfl) ⟨trivial, ⟨trivial, ⟨trivial, ⟨(gq116.ok2 hE), ⟨trivial, ⟨trivial, ⟨trivial, ⟨(gq116.ok3 hE), ⟨(gq116.ok4 hE), trivial⟩⟩⟩⟩⟩⟩⟩⟩⟩
theorem gq116.hE : EOk Tryz.prog (gq116.E) := EOk.of ttOk (⟨gq102.fok, ⟨gq103.fok, ⟨gq115.fok, ⟨gq153.fok, trivial⟩⟩⟩⟩)
theorem gq116.fok : FOk Tryz.prog 116 gq116.fi :=
 fokS (E := gq116.E) (wy := ⟨[[none]], [[none, some (.str, true), some (.str, true), none, none], [], []], []⟩) (h := (fun gs => .n (.a) (.n (.a) (.n (.a) (.n (.s (gq116.S2)) (.n (.a) (.n (.a) (.n (.a) (.n (.s (gq116.S3)) (.n (.s (gq116.S4)) (.a))))))))))) (G := fun t g => gq116.F (fun y0 y1 y2 y3 y4 y5 => g (y0, y1, y2, y3, y4, y5)) t.1.1 t.1.2.1 t.1.2.2.1 t.1.2.2.2.1 t.1.2.2.2.2.1 t.2.1.1 t.2.1.2.1 t.2.1.2.2.1 t.2.2.1) (by kernel_rfl) gq116.hE Tryz.func116 (by kernel_rfl) rfl (Nat.le_refl _) (fun t => HintOk.n1 (by kernel_rfl) (gq116.hok gq116.hE)) (fun t g => gq116.F_nat g (fun y0 y1 y2 y3 y4 y5 => some (y0, y1, y2, y3, y4, y5)) _ _ _ _ _ _ _ _ _) (fun t => by kernel_rfl)
def gq66.l1 {R : Type} (kke0 : Int → Int → List (El kFile) → Option R) : Nat → List (El kFile) → Int → Int → Int → Int → List (El kFile) → Option R
 | 0, _, _, _, _, _, _ => none
 | n + 1, l, i, i1, i2, i3, segments =>
  cond (decide (i1 < i)) (
   grd (gIx i1 (List.length l)) <|
   (gq115 ((rdE kFile l (Int.toNat i1)).1)).bind fun r =>
   cond (decide (r > (0 : Int))) (
    grd (gRm (((List.length segments) + (List.length [rdE kFile l (Int.toNat i1)])) * 40)) <|
    gq66.l1 kke0 n l i (IntKind.wrap .i64 (i1 + (1 : Int))) i2 i3 (segments ++ [rdE kFile l (Int.toNat i1)])) (gq66.l1 kke0 n l i (IntKind.wrap .i64 (i1 + (1 : Int))) i2 i3 segments)) (kke0 i2 i3 segments)
theorem gq66.l1_nat {R S : Type} (g : R → Option S) (kke0 : Int → Int → List (El kFile) → Option R) : ∀ n l i i1 i2 i3 segments, gq66.l1 (fun y0 y1 y2 => (kke0 y0 y1 y2).bind g) n l i i1 i2 i3 segments = (gq66.l1 kke0 n l i i1 i2 i3 segments).bind g := by
 intro n
 induction n with
 | zero => intros; rfl
 | succ n ih => intros; simp only [gq66.l1, grd_bind, cnd_bind, bnd_bind, non_bind, ih]
def gq66.l2 {R : Type} (kke2 : Int → Int → Int → Int → Int → List ByteArray → List ByteArray → Option R) (kkr : Int → Int → Int → Option R) : Nat → Int → Int → Int → Int → List (El kFile) → Int → Int → Int → List ByteArray → List ByteArray → Option R
 | 0, _, _, _, _, _, _, _, _, _, _ => none
 | n + 1, i, i1, i2, i3, segments, r, r1, r2, l, l1 =>
  cond (decide (i1 < i)) (
   grd (gIx i1 (List.length segments)) <|
   (gq116 r l l1 r1 r2 ((rdE kFile segments (Int.toNat i1)).1) ((rdE kFile segments (Int.toNat i1)).2.1) ((rdE kFile segments (Int.toNat i1)).2.2) (i1 == (IntKind.wrap .i64 ((List.length segments : Int) - (1 : Int))))).bind fun r3 =>
   cond (r3.1 != (0 : Int)) (kkr r3.1 (0 : Int) (0 : Int)) (
    gq66.l2 kke2 kkr n i (IntKind.wrap .i64 (i1 + (1 : Int))) i2 i3 segments r3.2.1 r3.2.2.2.2.1 r3.2.2.2.2.2 r3.2.2.1 r3.2.2.2.1)) (kke2 i2 i3 r r1 r2 l l1)
theorem gq66.l2_nat {R S : Type} (g : R → Option S) (kke2 : Int → Int → Int → Int → Int → List ByteArray → List ByteArray → Option R) (kkr : Int → Int → Int → Option R) : ∀ n i i1 i2 i3 segments r r1 r2 l l1, gq66.l2 (fun y0 y1 y2 y3 y4 y5 y6 => (kke2 y0 y1 y2 y3 y4 y5 y6).bind g) (fun y0 y1 y2 => (kkr y0 y1 y2).bind g) n i i1 i2 i3 segments r r1 r2 l l1 = (gq66.l2 kke2 kkr n i i1 i2 i3 segments r r1 r2 l l1).bind g := by
 intro n
 induction n with
 | zero => intros; rfl
 | succ n ih => intros; simp only [gq66.l2, grd_bind, cnd_bind, bnd_bind, non_bind, ih]
def gq66.F {R : Type} (kk : Int → List ByteArray → List ByteArray → Int → Int → Option R) (d_Room : Int) (d_Files : List (El kFile)) : Option R :=
 gq66.l1 (fun i i1 segments =>
  gq66.l2 (fun i2 i3 r r1 r2 l l1 => kk r l l1 r1 (0 : Int)) (fun i4 i5 i6 => kk i5 [] [] i6 i4) fuel (List.length segments : Int) (0 : Int) i i1 segments (0 : Int) (0 : Int) (0 : Int) [] []) fuel d_Files (List.length d_Files : Int) (0 : Int) (0 : Int) (0 : Int) ([] : List (El kFile))
theorem gq66.F_nat {R S : Type} (g : R → Option S) (kk : Int → List ByteArray → List ByteArray → Int → Int → Option R) (d_Room d_Files) : gq66.F (fun y0 y1 y2 y3 y4 => (kk y0 y1 y2 y3 y4).bind g) d_Room d_Files = (gq66.F kk d_Room d_Files).bind g := by
 simp only [gq66.F, grd_bind, cnd_bind, bnd_bind, non_bind, ← gq66.l1_nat, ← gq66.l2_nat]
def gq66 (d_Room : Int) (d_Files : List (El kFile)) : Option (Int × List ByteArray × List ByteArray × Int × Int) := gq66.F (fun y0 y1 y2 y3 y4 => some (y0, y1, y2, y3, y4)) d_Room d_Files
def gq66.out : (Int × List ByteArray × List ByteArray × Int × Int) → CRes := fun a => ⟨encL SV.enc [.agg [.int .i64, .own [] .str true, .own [] .str true, .int .i64], .one (.int .i64)] ((a.1, a.2.1, a.2.2.1, a.2.2.2.1, ()), a.2.2.2.2, ()), [encL SC.enc [] ()]⟩
def gq66.ps : List PS := [.val [none, some (kFile, false)]]
def gq66.sA : List SA := [.v (.agg [.int .i64, .slv [] kFile])]
def gq66.fi : FI := FIs gq66.sA (Int × List ByteArray × List ByteArray × Int × Int) (fun t => gq66 t.1.1 t.1.2.1) gq66.out gq66.ps
def gq66.E : Env := ⟨tt, lkF [(115, gq115.fi), (116, gq116.fi)], 54, 0, [], []⟩
def gq66.sh1 : SK := ⟨[.v (.one (.bptr 0 0)), .v (.one (.slo 1)), .v (.one (.slv [1] kFile)), .v (.one (.int .i64)), .v (.one (.int .i64))], [.box [.int .i64, .nil, .nil, .int .i64], .arr kFile [] true]⟩
def gq66.sh1e0 : SK := ⟨[.v (.one (.bptr 0 0)), .v (.one (.slo 1))], [.box [.int .i64, .nil, .nil, .int .i64], .arr kFile [] true]⟩
def gq66.ko1 : Ex → List CastAt × List Nat
 | .nrm => ([], [])
 | .ret => ([], [])
 | .ext i => cond (Nat.beq i 0) ([], [2, 4]) ([], [])
def gq66.G1 (n : Nat) (R : Type) (t : gq66.sh1.T) (K : Ex → Kp → Option R) : Option R := gq66.l1 (fun y0 y1 y2 => K (.ext 0) (SK.enc gq66.sh1e0 (((), (), ()), ((y0, (), (), y1, ()), y2, ())))) n t.1.2.2.1 t.1.2.2.2.1 t.1.2.2.2.2.1 t.2.1.1 t.2.1.2.2.2.1 t.2.2.1
def gq66.S1 : Sum := ⟨([], [2, 4, 13, 14, 15]), sumF gq66.sh1 (gq66.G1 fuel), gq66.ko1⟩
theorem gq66.ok1 (hE : EOk Tryz.prog (gq66.E)) : SumOk Tryz.prog gq66.E (cB (cR (cL (cR (cR (bodyOf Tryz.f66)))))) (gq66.S1) := by
 have hh : HintOk Tryz.prog gq66.E (cB (cB (cR (cL (cR (cR (bodyOf Tryz.f66))))))) (.a) := HintOk.n1 (Q := True) (by kernel_rfl) trivial
 have h := loopS (kin := ([], [2, 4, 13, 14, 15])) (kout := gq66.ko1) (sh := gq66.sh1) (F := gq66.G1) (ops_ok (hE.gv _)) (by kernel_rfl) hh (fun _ _ _ => rfl) (fun n R t K => by kernel_rfl) fuel
 exact HintOk.n1 (c := (cB (cR (cL (cR (cR (bodyOf Tryz.f66))))))) (h := .s (gq66.S1)) (P := Tryz.prog) (E := gq66.E) (by kernel_rfl) h
def gq66.sh2 : SK := ⟨[.v (.one (.bptr 0 0)), .v (.one (.slo 1)), .v (.one (.bptr 2 0)), .v (.one (.slo 1)), .v (.one (.int .i64)), .v (.one (.int .i64))], [.box [.int .i64, .nil, .nil, .int .i64], .arr kFile [] true, .box [.int .i64, .slo 3, .slo 4, .int .i64, .int .i64], .arr .str [] true, .arr .str [] true]⟩
def gq66.sh2e2 : SK := ⟨[.v (.one (.bptr 0 0)), .v (.one (.bptr 1 0))], [.box [.int .i64, .nil, .nil, .int .i64], .box [.int .i64, .slo 2, .slo 3, .int .i64, .int .i64], .arr .str [] true, .arr .str [] true]⟩
def gq66.sh2r : SK := ⟨[.v (.one (.bptr 0 0)), .v (.one (.int .i64))], [.box [.int .i64, .nil, .nil, .int .i64]]⟩
def gq66.ko2 : Ex → List CastAt × List Nat
 | .nrm => ([], [])
 | .ret => ([], [2, 3])
 | .ext i => cond (Nat.beq i 2) ([], [2, 7]) ([], [])
def gq66.G2 (n : Nat) (R : Type) (t : gq66.sh2.T) (K : Ex → Kp → Option R) : Option R := gq66.l2 (fun y0 y1 y2 y3 y4 y5 y6 => K (.ext 2) (SK.enc gq66.sh2e2 (((), (), ()), ((y0, (), (), y1, ()), (y2, (), (), y3, y4, ()), y5, y6, ())))) (fun y0 y1 y2 => K .ret (SK.enc gq66.sh2r (((), y0, ()), ((y1, (), (), y2, ()), ())))) n t.1.2.2.2.2.1 t.1.2.2.2.2.2.1 t.2.1.1 t.2.1.2.2.2.1 t.2.2.1 t.2.2.2.1.1 t.2.2.2.1.2.2.2.1 t.2.2.2.1.2.2.2.2.1 t.2.2.2.2.1 t.2.2.2.2.2.1
def gq66.S2 : Sum := ⟨([⟨7, true, 1, .own .str⟩, ⟨7, true, 2, .own .str⟩], [2, 4, 7, 30, 31, 32]), sumF gq66.sh2 (gq66.G2 fuel), gq66.ko2⟩
theorem gq66.ok2 (hE : EOk Tryz.prog (gq66.E)) : SumOk Tryz.prog gq66.E (cB (cR (cL (cR (cR (cR (cR (bodyOf Tryz.f66)))))))) (gq66.S2) := by
 have hh : HintOk Tryz.prog gq66.E (cB (cB (cR (cL (cR (cR (cR (cR (bodyOf Tryz.f66))))))))) (.a) := HintOk.n1 (Q := True) (by kernel_rfl) trivial
 have h := loopS (kin := ([⟨7, true, 1, .own .str⟩, ⟨7, true, 2, .own .str⟩], [2, 4, 7, 30, 31, 32])) (kout := gq66.ko2) (sh := gq66.sh2) (F := gq66.G2) (ops_ok (hE.gv _)) (by kernel_rfl) hh (fun _ _ _ => rfl) (fun n R t K => by kernel_rfl) fuel
 exact HintOk.n1 (c := (cB (cR (cL (cR (cR (cR (cR (bodyOf Tryz.f66))))))))) (h := .s (gq66.S2)) (P := Tryz.prog) (E := gq66.E) (by kernel_rfl) h
theorem gq66.hok (hE : EOk Tryz.prog (gq66.E)) : HintOk Tryz.prog gq66.E (bodyOf Tryz.f66) (.n (.a) (.n (.a) (.n (.n (.a) (.b (.s (gq66.S1)))) (.n (.a) (.n (.n (.a) (.b (.s (gq66.S2)))) (.a)))))) := HintOk.n1 (Q := (True) ∧ ((True) ∧ (((True) ∧ (SumOk Tryz.prog gq66.E (cB (cR (cL (cR (cR (bodyOf Tryz.f66)))))) (gq66.S1))) ∧ ((True) ∧ (((True) ∧ (SumOk Tryz.prog gq66.E (cB (cR (cL (cR (cR (cR (cR (bodyOf Tryz.f66)))))))) (gq66.S2))) ∧ (True)))))) (by kernel_rfl) ⟨trivial, ⟨trivial, ⟨⟨trivial, (gq66.ok1 hE)⟩, ⟨trivial, ⟨⟨trivial, (gq66.ok2 hE)⟩, trivial⟩⟩⟩⟩⟩
theorem gq66.hE : EOk Tryz.prog (gq66.E) := EOk.of ttOk (⟨gq115.fok, ⟨gq116.fok, trivial⟩⟩)
theorem gq66.fok : FOk Tryz.prog 66 gq66.fi :=
 fokS (E := gq66.E) (wy := ⟨[[none, some (.str, true), some (.str, true), none], [none]], [[]], []⟩) (h := (fun gs => .n (.a) (.n (.a) (.n (.n (.a) (.b (.s (gq66.S1)))) (.n (.a) (.n (.n (.a) (.b (.s (gq66.S2)))) (.a))))))) (G := fun t g => gq66.F (fun y0 y1 y2 y3 y4 => g (y0, y1, y2, y3, y4)) t.1.1 t.1.2.1) (by kernel_rfl) gq66.hE Tryz.func66 (by kernel_rfl) rfl (Nat.le_refl _) (fun t => HintOk.n1 (by kernel_rfl) (gq66.hok gq66.hE)) (fun t g => gq66.F_nat g (fun y0 y1 y2 y3 y4 => some (y0, y1, y2, y3, y4)) _ _) (fun t => by kernel_rfl)
def gq68.F {R : Type} (kk : ByteArray → Option R) (n_ : Int) : Option R :=
 grd (gNz (10 : Int)) <|
 grd (gNz (10 : Int)) <|
 grd (gCat (⟨#[115]⟩ : ByteArray) (strL [IntKind.wrap .u8 (IntKind.wrap .i64 ((48 : Int) + (IntKind.wrap .i64 (Int.tdiv n_ (10 : Int))))), IntKind.wrap .u8 (IntKind.wrap .i64 ((48 : Int) + (Int.tmod n_ (10 : Int))))])) <|
 kk ((⟨#[115]⟩ : ByteArray) ++ (strL [IntKind.wrap .u8 (IntKind.wrap .i64 ((48 : Int) + (IntKind.wrap .i64 (Int.tdiv n_ (10 : Int))))), IntKind.wrap .u8 (IntKind.wrap .i64 ((48 : Int) + (Int.tmod n_ (10 : Int))))]))
theorem gq68.F_nat {R S : Type} (g : R → Option S) (kk : ByteArray → Option R) (n_) : gq68.F (fun y0 => (kk y0).bind g) n_ = (gq68.F kk n_).bind g := by
 simp only [gq68.F, grd_bind, cnd_bind, bnd_bind, non_bind]
def gq68 (n_ : Int) : Option ByteArray := gq68.F (fun y0 => some y0) n_
def gq68.out : ByteArray → CRes := fun a => ⟨encL SV.enc [.one (.str)] (a, ()), [encL SC.enc [] ()]⟩
def gq68.ps : List PS := [.val [none]]
def gq68.sA : List SA := [.v (.one (.int .i64))]
def gq68.fi : FI := FIs gq68.sA (ByteArray) (fun t => gq68 t.1) gq68.out gq68.ps
def gq68.E : Env := ⟨tt, lkF [], 14, 0, [], []⟩
theorem gq68.hok (hE : EOk Tryz.prog (gq68.E)) : HintOk Tryz.prog gq68.E (bodyOf Tryz.f68) (.a) := HintOk.n1 (Q := True) (by kernel_rfl) trivial
theorem gq68.hE : EOk Tryz.prog (gq68.E) := EOk.of ttOk (trivial)
theorem gq68.fok : FOk Tryz.prog 68 gq68.fi :=
 fokS (E := gq68.E) (wy := ⟨[[none]], [[]], []⟩) (h := (fun gs => .a)) (G := fun t g => gq68.F (fun y0 => g y0) t.1) (by kernel_rfl) gq68.hE Tryz.func68 (by kernel_rfl) rfl (Nat.le_refl _) (fun t => HintOk.n1 (by kernel_rfl) (gq68.hok gq68.hE)) (fun t g => gq68.F_nat g (fun y0 => some y0) _) (fun t => by kernel_rfl)
def gq75.F {R : Type} (kk : ByteArray → Option R) (w_First : Int) (w_Records : List ByteArray) (w_Names : List ByteArray) (w_Torn : Int) : Option R :=
 cond ((List.length w_Names : Int) == (0 : Int)) (kk ByteArray.empty) (
  grd (gIx (IntKind.wrap .i64 ((List.length w_Names : Int) - (1 : Int))) (List.length w_Names)) <|
  kk (rdE (.str : Kd) w_Names (Int.toNat (IntKind.wrap .i64 ((List.length w_Names : Int) - (1 : Int))))))
theorem gq75.F_nat {R S : Type} (g : R → Option S) (kk : ByteArray → Option R) (w_First w_Records w_Names w_Torn) : gq75.F (fun y0 => (kk y0).bind g) w_First w_Records w_Names w_Torn = (gq75.F kk w_First w_Records w_Names w_Torn).bind g := by
 simp only [gq75.F, grd_bind, cnd_bind, bnd_bind, non_bind]
def gq75 (w_First : Int) (w_Records : List ByteArray) (w_Names : List ByteArray) (w_Torn : Int) : Option ByteArray := gq75.F (fun y0 => some y0) w_First w_Records w_Names w_Torn
def gq75.out : ByteArray → CRes := fun a => ⟨encL SV.enc [.one (.str)] (a, ()), [encL SC.enc [] ()]⟩
def gq75.ps : List PS := [.val [none, some (.str, false), some (.str, false), none]]
def gq75.sA : List SA := [.v (.agg [.int .i64, .slv [] .str, .slv [] .str, .int .i64])]
def gq75.fi : FI := FIs gq75.sA (ByteArray) (fun t => gq75 t.1.1 t.1.2.1 t.1.2.2.1 t.1.2.2.2.1) gq75.out gq75.ps
def gq75.E : Env := ⟨tt, lkF [], 15, 0, [], []⟩
theorem gq75.hok (hE : EOk Tryz.prog (gq75.E)) : HintOk Tryz.prog gq75.E (bodyOf Tryz.f75) (.a) := HintOk.n1 (Q := True) (by kernel_rfl) trivial
theorem gq75.hE : EOk Tryz.prog (gq75.E) := EOk.of ttOk (trivial)
theorem gq75.fok : FOk Tryz.prog 75 gq75.fi :=
 fokS (E := gq75.E) (wy := ⟨[[none]], [[]], []⟩) (h := (fun gs => .a)) (G := fun t g => gq75.F (fun y0 => g y0) t.1.1 t.1.2.1 t.1.2.2.1 t.1.2.2.2.1) (by kernel_rfl) gq75.hE Tryz.func75 (by kernel_rfl) rfl (Nat.le_refl _) (fun t => HintOk.n1 (by kernel_rfl) (gq75.hok gq75.hE)) (fun t g => gq75.F_nat g (fun y0 => some y0) _ _ _ _) (fun t => by kernel_rfl)
def i_plan.F {R : Type} (kk : List (El kka9e) → Option R) (d_Room : Int) (d_Files : List (El kFile)) (w_First : Int) (w_Records : List ByteArray) (w_Names : List ByteArray) (w_Torn : Int) (data : ByteArray) : Option R :=
 (gq155 data).bind fun r =>
 (gq75 w_First w_Records w_Names w_Torn).bind fun r1 =>
 (gq153 w_First w_Records w_Names w_Torn).bind fun r2 =>
 (gq137 r2 (4 : Int)).bind fun r3 =>
 (gq155 r3).bind fun r4 =>
 grd (gCat r4 r) <|
 cond (sEq r1 ByteArray.empty) (
  (gq68 (1 : Int)).bind fun r5 =>
  kk ([((1 : Int), ((0 : Int), (r5, (ByteArray.empty, (r4 ++ r, [])))))])) (
  (gq76 d_Room d_Files r1).bind fun r6 =>
  grd (gIx r6.1 (List.length d_Files)) <|
  cond ((ByteArray.size (rdE kFile d_Files (Int.toNat r6.1)).2.1 : Int) == (0 : Int)) (kk ([((1 : Int), ((0 : Int), (r1, (ByteArray.empty, (r4 ++ r, [])))))])) (
   cond (decide ((IntKind.wrap .i64 ((ByteArray.size (rdE kFile d_Files (Int.toNat r6.1)).2.1 : Int) + (ByteArray.size r : Int))) > (160 : Int))) (
    (gq115 r1).bind fun r7 =>
    (gq68 (IntKind.wrap .i64 (r7 + (1 : Int)))).bind fun r8 =>
    kk ([((2 : Int), ((0 : Int), (r1, (ByteArray.empty, (ByteArray.empty, []))))), ((1 : Int), ((0 : Int), (r8, (ByteArray.empty, (r4 ++ r, [])))))])) (kk ([((1 : Int), ((0 : Int), (r1, (ByteArray.empty, (r, [])))))]))))
theorem i_plan.F_nat {R S : Type} (g : R → Option S) (kk : List (El kka9e) → Option R) (d_Room d_Files w_First w_Records w_Names w_Torn data) : i_plan.F (fun y0 => (kk y0).bind g) d_Room d_Files w_First w_Records w_Names w_Torn data = (i_plan.F kk d_Room d_Files w_First w_Records w_Names w_Torn data).bind g := by
 simp only [i_plan.F, grd_bind, cnd_bind, bnd_bind, non_bind]
def i_plan (d_Room : Int) (d_Files : List (El kFile)) (w_First : Int) (w_Records : List ByteArray) (w_Names : List ByteArray) (w_Torn : Int) (data : ByteArray) : Option (List (El kka9e)) := i_plan.F (fun y0 => some y0) d_Room d_Files w_First w_Records w_Names w_Torn data
def i_plan.out : (List (El kka9e)) → CRes := fun a => ⟨encL SV.enc [.one (.own [] kka9e true)] (a, ()), [encL SC.enc [] (), encL SC.enc [] (), encL SC.enc [] ()]⟩
def i_plan.ps : List PS := [.val [none, some (kFile, false)], .val [none, some (.str, false), some (.str, false), none], .val [none]]
def i_plan.sA : List SA := [.v (.agg [.int .i64, .slv [] kFile]), .v (.agg [.int .i64, .slv [] .str, .slv [] .str, .int .i64]), .v (.one (.str))]
def i_plan.fi : FI := FIs i_plan.sA (List (El kka9e)) (fun t => i_plan t.1.1 t.1.2.1 t.2.1.1 t.2.1.2.1 t.2.1.2.2.1 t.2.1.2.2.2.1 t.2.2.1) i_plan.out i_plan.ps
def i_plan.E : Env := ⟨tt, lkF [(68, gq68.fi), (75, gq75.fi), (76, gq76.fi), (115, gq115.fi), (137, gq137.fi), (153, gq153.fi), (155, gq155.fi)], 68, 0, [], []⟩
theorem i_plan.hok (hE : EOk Tryz.prog (i_plan.E)) : HintOk Tryz.prog i_plan.E (bodyOf Tryz.f119) (.a) := HintOk.n1 (Q := True) (by kernel_rfl) trivial
theorem i_plan.hE : EOk Tryz.prog (i_plan.E) := EOk.of ttOk (⟨gq68.fok, ⟨gq75.fok, ⟨gq76.fok, ⟨gq115.fok, ⟨gq137.fok, ⟨gq153.fok, ⟨gq155.fok, trivial⟩⟩⟩⟩⟩⟩⟩)
theorem i_plan.fok : FOk Tryz.prog 119 i_plan.fi :=
 fokS (E := i_plan.E) (wy := ⟨[[some (kka9e, true)]], [[], [], []], []⟩) (h := (fun gs => .a)) (G := fun t g => i_plan.F (fun y0 => g y0) t.1.1 t.1.2.1 t.2.1.1 t.2.1.2.1 t.2.1.2.2.1 t.2.1.2.2.2.1 t.2.2.1) (by kernel_rfl) i_plan.hE Tryz.func119 (by kernel_rfl) rfl (Nat.le_refl _) (fun t => HintOk.n1 (by kernel_rfl) (i_plan.hok i_plan.hE)) (fun t g => i_plan.F_nat g (fun y0 => some y0) _ _ _ _ _ _ _) (fun t => by kernel_rfl)
def gq70.F {R : Type} (kk : List (El kka9e) → Int → Option R) (d_Room : Int) (d_Files : List (El kFile)) (data : ByteArray) : Option R :=
 (gq67 (ByteArray.size data : Int) (1 : Int) (110 : Int)).bind fun r =>
 cond (!r) (kk [] (4 : Int)) (
  (gq66 d_Room d_Files).bind fun r1 =>
  cond (r1.2.2.2.2 != (0 : Int)) (kk [] r1.2.2.2.2) (
   cond (decide (r1.2.2.2.1 > (0 : Int))) (kk [] (16 : Int)) (
    cond (decide ((List.length r1.2.1 : Int) ≥ (60 : Int))) (kk [] (6 : Int)) (
     (gq75 r1.1 r1.2.1 r1.2.2.1 r1.2.2.2.1).bind fun r2 =>
     (gq68 (99 : Int)).bind fun r3 =>
     cond (sEq r2 r3) (kk [] (6 : Int)) (
      (i_plan d_Room d_Files r1.1 r1.2.1 r1.2.2.1 r1.2.2.2.1 data).bind fun r4 =>
      kk r4 (0 : Int))))))
theorem gq70.F_nat {R S : Type} (g : R → Option S) (kk : List (El kka9e) → Int → Option R) (d_Room d_Files data) : gq70.F (fun y0 y1 => (kk y0 y1).bind g) d_Room d_Files data = (gq70.F kk d_Room d_Files data).bind g := by
 simp only [gq70.F, grd_bind, cnd_bind, bnd_bind, non_bind]
def gq70 (d_Room : Int) (d_Files : List (El kFile)) (data : ByteArray) : Option (List (El kka9e) × Int) := gq70.F (fun y0 y1 => some (y0, y1)) d_Room d_Files data
def gq70.out : (List (El kka9e) × Int) → CRes := fun a => ⟨encL SV.enc [.one (.own [] kka9e true), .one (.int .i64)] (a.1, a.2, ()), [encL SC.enc [] (), encL SC.enc [] ()]⟩
def gq70.ps : List PS := [.val [none, some (kFile, false)], .val [none]]
def gq70.sA : List SA := [.v (.agg [.int .i64, .slv [] kFile]), .v (.one (.str))]
def gq70.fi : FI := FIs gq70.sA (List (El kka9e) × Int) (fun t => gq70 t.1.1 t.1.2.1 t.2.1) gq70.out gq70.ps
def gq70.E : Env := ⟨tt, lkF [(66, gq66.fi), (67, gq67.fi), (68, gq68.fi), (75, gq75.fi), (119, i_plan.fi)], 40, 0, [], []⟩
theorem gq70.hok (hE : EOk Tryz.prog (gq70.E)) : HintOk Tryz.prog gq70.E (bodyOf Tryz.f70) (.a) := HintOk.n1 (Q := True) (by kernel_rfl) trivial
theorem gq70.hE : EOk Tryz.prog (gq70.E) := EOk.of ttOk (⟨gq66.fok, ⟨gq67.fok, ⟨gq68.fok, ⟨gq75.fok, ⟨i_plan.fok, trivial⟩⟩⟩⟩⟩)
theorem gq70.fok : FOk Tryz.prog 70 gq70.fi :=
 fokS (E := gq70.E) (wy := ⟨[[some (kka9e, true)], [none]], [[], []], []⟩) (h := (fun gs => .a)) (G := fun t g => gq70.F (fun y0 y1 => g (y0, y1)) t.1.1 t.1.2.1 t.2.1) (by kernel_rfl) gq70.hE Tryz.func70 (by kernel_rfl) rfl (Nat.le_refl _) (fun t => HintOk.n1 (by kernel_rfl) (gq70.hok gq70.hE)) (fun t g => gq70.F_nat g (fun y0 y1 => some (y0, y1)) _ _ _) (fun t => by kernel_rfl)
def gq71.l1 {R : Type} (kke0 : Int → Int → List (El kFile) → Option R) (kkr : Int → Int → Option R) : Nat → Int → Int → Int → Int → List (El kka9e) → List (El kFile) → Option R
 | 0, _, _, _, _, _, _ => none
 | n + 1, i, i1, i2, out, l, l1 =>
  cond (decide (i1 < i)) (
   grd (gIx i1 (List.length l)) <|
   (gq55 out l1 ((rdE kka9e l (Int.toNat i1)).1) ((rdE kka9e l (Int.toNat i1)).2.1) ((rdE kka9e l (Int.toNat i1)).2.2.1) ((rdE kka9e l (Int.toNat i1)).2.2.2.1) ((rdE kka9e l (Int.toNat i1)).2.2.2.2.1) ((rdE kka9e l (Int.toNat i1)).2.2.2.2.2)).bind fun r =>
   cond (r.1 != (0 : Int)) (kkr r.1 (0 : Int)) (gq71.l1 kke0 kkr n i (IntKind.wrap .i64 (i1 + (1 : Int))) i2 r.2.1 l r.2.2)) (kke0 i2 out l1)
theorem gq71.l1_nat {R S : Type} (g : R → Option S) (kke0 : Int → Int → List (El kFile) → Option R) (kkr : Int → Int → Option R) : ∀ n i i1 i2 out l l1, gq71.l1 (fun y0 y1 y2 => (kke0 y0 y1 y2).bind g) (fun y0 y1 => (kkr y0 y1).bind g) n i i1 i2 out l l1 = (gq71.l1 kke0 kkr n i i1 i2 out l l1).bind g := by
 intro n
 induction n with
 | zero => intros; rfl
 | succ n ih => intros; simp only [gq71.l1, grd_bind, cnd_bind, bnd_bind, non_bind, ih]
def gq71.F {R : Type} (kk : Int → List (El kFile) → Int → Option R) (d_Room : Int) (d_Files : List (El kFile)) (data : ByteArray) : Option R :=
 (gq70 d_Room d_Files data).bind fun r =>
 cond (r.2 != (0 : Int)) (kk (0 : Int) [] r.2) (
  (gq53 d_Room d_Files).bind fun r1 =>
  gq71.l1 (fun i out l => kk out l (0 : Int)) (fun i1 i2 => kk i2 [] i1) fuel (List.length r.1 : Int) (0 : Int) (0 : Int) r1.1 r.1 r1.2)
theorem gq71.F_nat {R S : Type} (g : R → Option S) (kk : Int → List (El kFile) → Int → Option R) (d_Room d_Files data) : gq71.F (fun y0 y1 y2 => (kk y0 y1 y2).bind g) d_Room d_Files data = (gq71.F kk d_Room d_Files data).bind g := by
 simp only [gq71.F, grd_bind, cnd_bind, bnd_bind, non_bind, ← gq71.l1_nat]
def gq71 (d_Room : Int) (d_Files : List (El kFile)) (data : ByteArray) : Option (Int × List (El kFile) × Int) := gq71.F (fun y0 y1 y2 => some (y0, y1, y2)) d_Room d_Files data
def gq71.out : (Int × List (El kFile) × Int) → CRes := fun a => ⟨encL SV.enc [.agg [.int .i64, .own [] kFile true], .one (.int .i64)] ((a.1, a.2.1, ()), a.2.2, ()), [encL SC.enc [] (), encL SC.enc [] ()]⟩
def gq71.ps : List PS := [.val [none, some (kFile, false)], .val [none]]
def gq71.sA : List SA := [.v (.agg [.int .i64, .slv [] kFile]), .v (.one (.str))]
def gq71.fi : FI := FIs gq71.sA (Int × List (El kFile) × Int) (fun t => gq71 t.1.1 t.1.2.1 t.2.1) gq71.out gq71.ps
def gq71.E : Env := ⟨tt, lkF [(53, gq53.fi), (55, gq55.fi), (70, gq70.fi)], 38, 0, [], []⟩
def gq71.sh1 : SK := ⟨[.v (.one (.bptr 0 0)), .v (.one (.bptr 1 0)), .v (.one (.slo 2)), .v (.one (.int .i64)), .v (.one (.int .i64))], [.box [.int .i64, .nil], .box [.int .i64, .slo 3], .arr kka9e [] true, .arr kFile [] true]⟩
def gq71.sh1e0 : SK := ⟨[.v (.one (.bptr 0 0)), .v (.one (.bptr 1 0))], [.box [.int .i64, .nil], .box [.int .i64, .slo 2], .arr kFile [] true]⟩
def gq71.sh1r : SK := ⟨[.v (.one (.bptr 0 0)), .v (.one (.int .i64))], [.box [.int .i64, .nil]]⟩
def gq71.ko1 : Ex → List CastAt × List Nat
 | .nrm => ([], [])
 | .ret => ([], [4, 5])
 | .ext i => cond (Nat.beq i 0) ([], [4, 8]) ([], [])
def gq71.G1 (n : Nat) (R : Type) (t : gq71.sh1.T) (K : Ex → Kp → Option R) : Option R := gq71.l1 (fun y0 y1 y2 => K (.ext 0) (SK.enc gq71.sh1e0 (((), (), ()), ((y0, (), ()), (y1, (), ()), y2, ())))) (fun y0 y1 => K .ret (SK.enc gq71.sh1r (((), y0, ()), ((y1, (), ()), ())))) n t.1.2.2.2.1 t.1.2.2.2.2.1 t.2.1.1 t.2.2.1.1 t.2.2.2.1 t.2.2.2.2.1
def gq71.S1 : Sum := ⟨([], [4, 8, 24, 25, 26]), sumF gq71.sh1 (gq71.G1 fuel), gq71.ko1⟩
theorem gq71.ok1 (hE : EOk Tryz.prog (gq71.E)) : SumOk Tryz.prog gq71.E (cB (cR (cL (cR (cR (cR (cR (bodyOf Tryz.f71)))))))) (gq71.S1) := by
 have hh : HintOk Tryz.prog gq71.E (cB (cB (cR (cL (cR (cR (cR (cR (bodyOf Tryz.f71))))))))) (.a) := HintOk.n1 (Q := True) (by kernel_rfl) trivial
 have h := loopS (kin := ([], [4, 8, 24, 25, 26])) (kout := gq71.ko1) (sh := gq71.sh1) (F := gq71.G1) (ops_ok (hE.gv _)) (by kernel_rfl) hh (fun _ _ _ => rfl) (fun n R t K => by kernel_rfl) fuel
 exact HintOk.n1 (c := (cB (cR (cL (cR (cR (cR (cR (bodyOf Tryz.f71))))))))) (h := .s (gq71.S1)) (P := Tryz.prog) (E := gq71.E) (by kernel_rfl) h
theorem gq71.hok (hE : EOk Tryz.prog (gq71.E)) : HintOk Tryz.prog gq71.E (bodyOf Tryz.f71) (.n (.a) (.n (.a) (.n (.a) (.n (.a) (.n (.n (.a) (.b (.s (gq71.S1)))) (.a)))))) := HintOk.n1 (Q := (True) ∧ ((True) ∧ ((True) ∧ ((True) ∧ (((True) ∧ (SumOk Tryz.prog gq71.E (cB (cR (cL (cR (cR (cR (cR (bodyOf Tryz.f71)))))))) (gq71.S1))) ∧ (True)))))) (by kernel_rfl) ⟨trivial, ⟨trivial, ⟨trivial, ⟨trivial, ⟨⟨trivial, (gq71.ok1 hE)⟩, trivial⟩⟩⟩⟩⟩
theorem gq71.hE : EOk Tryz.prog (gq71.E) := EOk.of ttOk (⟨gq53.fok, ⟨gq55.fok, ⟨gq70.fok, trivial⟩⟩⟩)
theorem gq71.fok : FOk Tryz.prog 71 gq71.fi :=
 fokS (E := gq71.E) (wy := ⟨[[none, some (kFile, true)], [none]], [[], []], []⟩) (h := (fun gs => .n (.a) (.n (.a) (.n (.a) (.n (.a) (.n (.n (.a) (.b (.s (gq71.S1)))) (.a))))))) (G := fun t g => gq71.F (fun y0 y1 y2 => g (y0, y1, y2)) t.1.1 t.1.2.1 t.2.1) (by kernel_rfl) gq71.hE Tryz.func71 (by kernel_rfl) rfl (Nat.le_refl _) (fun t => HintOk.n1 (by kernel_rfl) (gq71.hok gq71.hE)) (fun t g => gq71.F_nat g (fun y0 y1 y2 => some (y0, y1, y2)) _ _ _) (fun t => by kernel_rfl)
def gq72.l1 {R : Type} (kke0 : Int → Int → Int → List (El kFile) → Option R) : Nat → Int → Int → Int → Int → Int → List (El kFile) → Option R
 | 0, _, _, _, _, _, _ => none
 | n + 1, last, i, i1, i2, out, l =>
  cond (decide (i1 < i)) (
   grd (gIx i1 (List.length l)) <|
   (gq115 ((rdE kFile l (Int.toNat i1)).1)).bind fun r =>
   cond (decide (r > (0 : Int))) (gq72.l1 kke0 n i1 i (IntKind.wrap .i64 (i1 + (1 : Int))) i2 out l) (gq72.l1 kke0 n last i (IntKind.wrap .i64 (i1 + (1 : Int))) i2 out l)) (kke0 last i2 out l)
theorem gq72.l1_nat {R S : Type} (g : R → Option S) (kke0 : Int → Int → Int → List (El kFile) → Option R) : ∀ n last i i1 i2 out l, gq72.l1 (fun y0 y1 y2 y3 => (kke0 y0 y1 y2 y3).bind g) n last i i1 i2 out l = (gq72.l1 kke0 n last i i1 i2 out l).bind g := by
 intro n
 induction n with
 | zero => intros; rfl
 | succ n ih => intros; simp only [gq72.l1, grd_bind, cnd_bind, bnd_bind, non_bind, ih]
def gq72.F {R : Type} (kk : Int → List (El kFile) → Option R) (d_Room : Int) (d_Files : List (El kFile)) : Option R :=
 (gq53 d_Room d_Files).bind fun r =>
 gq72.l1 (fun last i out l =>
  cond (decide (last ≥ (0 : Int))) (
   grd (gIx last (List.length l)) <|
   grd (gIx last (List.length l)) <|
   kk out (setE kFile l (Int.toNat last) ((rdE kFile l (Int.toNat last)).1, ((rdE kFile l (Int.toNat last)).2.1, (ByteArray.size (rdE kFile l (Int.toNat last)).2.1 : Int))))) (kk out l)) fuel (-1 : Int) (List.length r.2 : Int) (0 : Int) (0 : Int) r.1 r.2
theorem gq72.F_nat {R S : Type} (g : R → Option S) (kk : Int → List (El kFile) → Option R) (d_Room d_Files) : gq72.F (fun y0 y1 => (kk y0 y1).bind g) d_Room d_Files = (gq72.F kk d_Room d_Files).bind g := by
 simp only [gq72.F, grd_bind, cnd_bind, bnd_bind, non_bind, ← gq72.l1_nat]
def gq72 (d_Room : Int) (d_Files : List (El kFile)) : Option (Int × List (El kFile)) := gq72.F (fun y0 y1 => some (y0, y1)) d_Room d_Files
def gq72.out : (Int × List (El kFile)) → CRes := fun a => ⟨encL SV.enc [.agg [.int .i64, .own [] kFile true]] ((a.1, a.2, ()), ()), [encL SC.enc [] ()]⟩
def gq72.ps : List PS := [.val [none, some (kFile, false)]]
def gq72.sA : List SA := [.v (.agg [.int .i64, .slv [] kFile])]
def gq72.fi : FI := FIs gq72.sA (Int × List (El kFile)) (fun t => gq72 t.1.1 t.1.2.1) gq72.out gq72.ps
def gq72.E : Env := ⟨tt, lkF [(53, gq53.fi), (115, gq115.fi)], 38, 0, [], []⟩
def gq72.sh1 : SK := ⟨[.v (.one (.bptr 0 0)), .v (.one (.bptr 1 0)), .v (.one (.int .i64)), .v (.one (.slo 2)), .v (.one (.int .i64)), .v (.one (.int .i64))], [.box [.int .i64, .nil], .box [.int .i64, .slo 2], .arr kFile [] true]⟩
def gq72.sh1e0 : SK := ⟨[.v (.one (.bptr 0 0)), .v (.one (.bptr 1 0)), .v (.one (.int .i64))], [.box [.int .i64, .nil], .box [.int .i64, .slo 2], .arr kFile [] true]⟩
def gq72.ko1 : Ex → List CastAt × List Nat
 | .nrm => ([], [])
 | .ret => ([], [])
 | .ext i => cond (Nat.beq i 0) ([], [2, 3, 4]) ([], [])
def gq72.G1 (n : Nat) (R : Type) (t : gq72.sh1.T) (K : Ex → Kp → Option R) : Option R := gq72.l1 (fun y0 y1 y2 y3 => K (.ext 0) (SK.enc gq72.sh1e0 (((), (), y0, ()), ((y1, (), ()), (y2, (), ()), y3, ())))) n t.1.2.2.1 t.1.2.2.2.2.1 t.1.2.2.2.2.2.1 t.2.1.1 t.2.2.1.1 t.2.2.2.1
def gq72.S1 : Sum := ⟨([], [2, 3, 4, 10, 11, 12]), sumF gq72.sh1 (gq72.G1 fuel), gq72.ko1⟩
theorem gq72.ok1 (hE : EOk Tryz.prog (gq72.E)) : SumOk Tryz.prog gq72.E (cB (cR (cL (cR (cR (bodyOf Tryz.f72)))))) (gq72.S1) := by
 have hh : HintOk Tryz.prog gq72.E (cB (cB (cR (cL (cR (cR (bodyOf Tryz.f72))))))) (.a) := HintOk.n1 (Q := True) (by kernel_rfl) trivial
 have h := loopS (kin := ([], [2, 3, 4, 10, 11, 12])) (kout := gq72.ko1) (sh := gq72.sh1) (F := gq72.G1) (ops_ok (hE.gv _)) (by kernel_rfl) hh (fun _ _ _ => rfl) (fun n R t K => by kernel_rfl) fuel
 exact HintOk.n1 (c := (cB (cR (cL (cR (cR (bodyOf Tryz.f72))))))) (h := .s (gq72.S1)) (P := Tryz.prog) (E := gq72.E) (by kernel_rfl) h
theorem gq72.hok (hE : EOk Tryz.prog (gq72.E)) : HintOk Tryz.prog gq72.E (bodyOf Tryz.f72) (.n (.a) (.n (.a) (.n (.n (.a) (.b (.s (gq72.S1)))) (.a)))) := HintOk.n1 (Q := (True) ∧ ((True) ∧ (((True) ∧ (SumOk Tryz.prog gq72.E (cB (cR (cL (cR (cR (bodyOf Tryz.f72)))))) (gq72.S1))) ∧ (True)))) (by kernel_rfl) ⟨trivial, ⟨trivial, ⟨⟨trivial, (gq72.ok1 hE)⟩, trivial⟩⟩⟩
theorem gq72.hE : EOk Tryz.prog (gq72.E) := EOk.of ttOk (⟨gq53.fok, ⟨gq115.fok, trivial⟩⟩)
theorem gq72.fok : FOk Tryz.prog 72 gq72.fi :=
 fokS (E := gq72.E) (wy := ⟨[[none, some (kFile, true)]], [[]], []⟩) (h := (fun gs => .n (.a) (.n (.a) (.n (.n (.a) (.b (.s (gq72.S1)))) (.a))))) (G := fun t g => gq72.F (fun y0 y1 => g (y0, y1)) t.1.1 t.1.2.1) (by kernel_rfl) gq72.hE Tryz.func72 (by kernel_rfl) rfl (Nat.le_refl _) (fun t => HintOk.n1 (by kernel_rfl) (gq72.hok gq72.hE)) (fun t g => gq72.F_nat g (fun y0 y1 => some (y0, y1)) _ _) (fun t => by kernel_rfl)
def gq136.l1 {R : Type} (kke0 : Int → Option R) : Nat → List (El kkb53) → List (El kkb53) → Int → Option R
 | 0, _, _, _ => none
 | n + 1, a, b, k_ =>
  cond (decide (k_ < (mn2 (List.length a : Int) (List.length b : Int)))) (
   grd (gIx k_ (List.length a)) <|
   grd (gIx k_ (List.length b)) <|
   cond (((rdE kkb53 a (Int.toNat k_)).1 == (rdE kkb53 b (Int.toNat k_)).1) && (((rdE kkb53 a (Int.toNat k_)).2.1 == (rdE kkb53 b (Int.toNat k_)).2.1) && (sEq (rdE kkb53 a (Int.toNat k_)).2.2 (rdE kkb53 b (Int.toNat k_)).2.2))) (gq136.l1 kke0 n a b (IntKind.wrap .i64 (k_ + (1 : Int)))) (kke0 k_)) (kke0 k_)
theorem gq136.l1_nat {R S : Type} (g : R → Option S) (kke0 : Int → Option R) : ∀ n a b k_, gq136.l1 (fun y0 => (kke0 y0).bind g) n a b k_ = (gq136.l1 kke0 n a b k_).bind g := by
 intro n
 induction n with
 | zero => intros; rfl
 | succ n ih => intros; simp only [gq136.l1, grd_bind, cnd_bind, bnd_bind, non_bind, ih]
def gq136.F {R : Type} (kk : Int → Option R) (a : List (El kkb53)) (b : List (El kkb53)) : Option R :=
 gq136.l1 (fun k_ => kk k_) fuel a b (0 : Int)
theorem gq136.F_nat {R S : Type} (g : R → Option S) (kk : Int → Option R) (a b) : gq136.F (fun y0 => (kk y0).bind g) a b = (gq136.F kk a b).bind g := by
 simp only [gq136.F, grd_bind, cnd_bind, bnd_bind, non_bind, ← gq136.l1_nat]
def gq136 (a : List (El kkb53)) (b : List (El kkb53)) : Option Int := gq136.F (fun y0 => some y0) a b
def gq136.out : Int → CRes := fun a => ⟨encL SV.enc [.one (.int .i64)] (a, ()), [encL SC.enc [] (), encL SC.enc [] ()]⟩
def gq136.ps : List PS := [.val [some (kkb53, false)], .val [some (kkb53, false)]]
def gq136.sA : List SA := [.v (.one (.slv [] kkb53)), .v (.one (.slv [] kkb53))]
def gq136.fi : FI := FIs gq136.sA (Int) (fun t => gq136 t.1 t.2.1) gq136.out gq136.ps
def gq136.E : Env := ⟨tt, lkF [], 27, 0, [], []⟩
def gq136.sh1 : SK := ⟨[.v (.one (.slv [1] kkb53)), .v (.one (.slv [2] kkb53)), .v (.one (.int .i64))], []⟩
def gq136.sh1e0 : SK := ⟨[.v (.one (.int .i64))], []⟩
def gq136.ko1 : Ex → List CastAt × List Nat
 | .nrm => ([], [])
 | .ret => ([], [])
 | .ext i => cond (Nat.beq i 0) ([], [5]) ([], [])
def gq136.G1 (n : Nat) (R : Type) (t : gq136.sh1.T) (K : Ex → Kp → Option R) : Option R := gq136.l1 (fun y0 => K (.ext 0) (SK.enc gq136.sh1e0 ((y0, ()), ()))) n t.1.1 t.1.2.1 t.1.2.2.1
def gq136.S1 : Sum := ⟨([], [0, 1, 5]), sumF gq136.sh1 (gq136.G1 fuel), gq136.ko1⟩
theorem gq136.ok1 (hE : EOk Tryz.prog (gq136.E)) : SumOk Tryz.prog gq136.E (cB (cL (cR (cR (bodyOf Tryz.f136))))) (gq136.S1) := by
 have hh : HintOk Tryz.prog gq136.E (cB (cB (cL (cR (cR (bodyOf Tryz.f136)))))) (.a) := HintOk.n1 (Q := True) (by kernel_rfl) trivial
 have h := loopS (kin := ([], [0, 1, 5])) (kout := gq136.ko1) (sh := gq136.sh1) (F := gq136.G1) (ops_ok (hE.gv _)) (by kernel_rfl) hh (fun _ _ _ => rfl) (fun n R t K => by kernel_rfl) fuel
 exact HintOk.n1 (c := (cB (cL (cR (cR (bodyOf Tryz.f136)))))) (h := .s (gq136.S1)) (P := Tryz.prog) (E := gq136.E) (by kernel_rfl) h
theorem gq136.hok (hE : EOk Tryz.prog (gq136.E)) : HintOk Tryz.prog gq136.E (bodyOf Tryz.f136) (.n (.a) (.n (.a) (.n (.b (.s (gq136.S1))) (.a)))) := HintOk.n1 (Q := (True) ∧ ((True) ∧ ((SumOk Tryz.prog gq136.E (cB (cL (cR (cR (bodyOf Tryz.f136))))) (gq136.S1)) ∧ (True)))) (by kernel_rfl) ⟨trivial, ⟨trivial, ⟨(gq136.ok1 hE), trivial⟩⟩⟩
theorem gq136.hE : EOk Tryz.prog (gq136.E) := EOk.of ttOk (trivial)
theorem gq136.fok : FOk Tryz.prog 136 gq136.fi :=
 fokS (E := gq136.E) (wy := ⟨[[none]], [[], []], []⟩) (h := (fun gs => .n (.a) (.n (.a) (.n (.b (.s (gq136.S1))) (.a))))) (G := fun t g => gq136.F (fun y0 => g y0) t.1 t.2.1) (by kernel_rfl) gq136.hE Tryz.func136 (by kernel_rfl) rfl (Nat.le_refl _) (fun t => HintOk.n1 (by kernel_rfl) (gq136.hok gq136.hE)) (fun t g => gq136.F_nat g (fun y0 => some y0) _ _) (fun t => by kernel_rfl)
def gq160.F {R : Type} (kk : ByteArray → Option R) (t_ : ByteArray) : Option R :=
 (gq137 (ByteArray.size t_ : Int) (1 : Int)).bind fun r =>
 grd (gCat r t_) <|
 kk (r ++ t_)
theorem gq160.F_nat {R S : Type} (g : R → Option S) (kk : ByteArray → Option R) (t_) : gq160.F (fun y0 => (kk y0).bind g) t_ = (gq160.F kk t_).bind g := by
 simp only [gq160.F, grd_bind, cnd_bind, bnd_bind, non_bind]
def gq160 (t_ : ByteArray) : Option ByteArray := gq160.F (fun y0 => some y0) t_
def gq160.out : ByteArray → CRes := fun a => ⟨encL SV.enc [.one (.str)] (a, ()), [encL SC.enc [] ()]⟩
def gq160.ps : List PS := [.val [none]]
def gq160.sA : List SA := [.v (.one (.str))]
def gq160.fi : FI := FIs gq160.sA (ByteArray) (fun t => gq160 t.1) gq160.out gq160.ps
def gq160.E : Env := ⟨tt, lkF [(137, gq137.fi)], 8, 0, [], []⟩
theorem gq160.hok (hE : EOk Tryz.prog (gq160.E)) : HintOk Tryz.prog gq160.E (bodyOf Tryz.f160) (.a) := HintOk.n1 (Q := True) (by kernel_rfl) trivial
theorem gq160.hE : EOk Tryz.prog (gq160.E) := EOk.of ttOk (⟨gq137.fok, trivial⟩)
theorem gq160.fok : FOk Tryz.prog 160 gq160.fi :=
 fokS (E := gq160.E) (wy := ⟨[[none]], [[]], []⟩) (h := (fun gs => .a)) (G := fun t g => gq160.F (fun y0 => g y0) t.1) (by kernel_rfl) gq160.hE Tryz.func160 (by kernel_rfl) rfl (Nat.le_refl _) (fun t => HintOk.n1 (by kernel_rfl) (gq160.hok gq160.hE)) (fun t g => gq160.F_nat g (fun y0 => some y0) _) (fun t => by kernel_rfl)
def gq138.F {R : Type} (kk : ByteArray → Option R) (e_Term : Int) (e_Kind : Int) (e_Data : ByteArray) : Option R :=
 (gq137 e_Term (4 : Int)).bind fun r =>
 (gq137 e_Kind (1 : Int)).bind fun r1 =>
 grd (gCat r r1) <|
 (gq160 e_Data).bind fun r2 =>
 grd (gCat (r ++ r1) r2) <|
 kk ((r ++ r1) ++ r2)
theorem gq138.F_nat {R S : Type} (g : R → Option S) (kk : ByteArray → Option R) (e_Term e_Kind e_Data) : gq138.F (fun y0 => (kk y0).bind g) e_Term e_Kind e_Data = (gq138.F kk e_Term e_Kind e_Data).bind g := by
 simp only [gq138.F, grd_bind, cnd_bind, bnd_bind, non_bind]
def gq138 (e_Term : Int) (e_Kind : Int) (e_Data : ByteArray) : Option ByteArray := gq138.F (fun y0 => some y0) e_Term e_Kind e_Data
def gq138.out : ByteArray → CRes := fun a => ⟨encL SV.enc [.one (.str)] (a, ()), [encL SC.enc [] ()]⟩
def gq138.ps : List PS := [.val [none, none, none]]
def gq138.sA : List SA := [.v (.agg [.int .i64, .int .i64, .str])]
def gq138.fi : FI := FIs gq138.sA (ByteArray) (fun t => gq138 t.1.1 t.1.2.1 t.1.2.2.1) gq138.out gq138.ps
def gq138.E : Env := ⟨tt, lkF [(137, gq137.fi), (160, gq160.fi)], 14, 0, [], []⟩
theorem gq138.hok (hE : EOk Tryz.prog (gq138.E)) : HintOk Tryz.prog gq138.E (bodyOf Tryz.f138) (.a) := HintOk.n1 (Q := True) (by kernel_rfl) trivial
theorem gq138.hE : EOk Tryz.prog (gq138.E) := EOk.of ttOk (⟨gq137.fok, ⟨gq160.fok, trivial⟩⟩)
theorem gq138.fok : FOk Tryz.prog 138 gq138.fi :=
 fokS (E := gq138.E) (wy := ⟨[[none]], [[]], []⟩) (h := (fun gs => .a)) (G := fun t g => gq138.F (fun y0 => g y0) t.1.1 t.1.2.1 t.1.2.2.1) (by kernel_rfl) gq138.hE Tryz.func138 (by kernel_rfl) rfl (Nat.le_refl _) (fun t => HintOk.n1 (by kernel_rfl) (gq138.hok gq138.hE)) (fun t g => gq138.F_nat g (fun y0 => some y0) _ _ _) (fun t => by kernel_rfl)
def gq83.j1 {R : Type} (kkn : Int → Bool → Int → Int → List (El kkb53) → Int → Int → List (El kkb53) → List ByteArray → Option R) (k_ : Int) (was : Int) (was1 : Int) (was2 : List (El kkb53)) (now : Int) (now1 : Int) (now2 : List (El kkb53)) (out : List ByteArray) : Option R :=
 cond (was != now) (kkn k_ true was was1 was2 now now1 now2 out) (kkn k_ (was1 != now1) was was1 was2 now now1 now2 out)
theorem gq83.j1_nat {R S : Type} (g : R → Option S) (kkn : Int → Bool → Int → Int → List (El kkb53) → Int → Int → List (El kkb53) → List ByteArray → Option R) (k_ was was1 was2 now now1 now2 out) : gq83.j1 (fun y0 y1 y2 y3 y4 y5 y6 y7 y8 => (kkn y0 y1 y2 y3 y4 y5 y6 y7 y8).bind g) k_ was was1 was2 now now1 now2 out = (gq83.j1 kkn k_ was was1 was2 now now1 now2 out).bind g := by
 simp only [gq83.j1, grd_bind, cnd_bind, bnd_bind, non_bind]
def gq83.j2 {R : Type} (kkn : Int → Int → Int → List (El kkb53) → Int → Int → List (El kkb53) → List ByteArray → Option R) (k_ : Int) (was : Int) (was1 : Int) (was2 : List (El kkb53)) (now : Int) (now1 : Int) (now2 : List (El kkb53)) (out : List ByteArray) : Option R :=
 gq83.j1 (fun k_1 b was3 was4 was5 now3 now4 now5 out1 =>
  cond (b) (
   (gq137 now3 (4 : Int)).bind fun r =>
   grd (gCat (⟨#[84]⟩ : ByteArray) r) <|
   (gq137 (IntKind.wrap .i64 (now4 + (1 : Int))) (1 : Int)).bind fun r1 =>
   grd (gCat ((⟨#[84]⟩ : ByteArray) ++ r) r1) <|
   grd (gRm (((List.length out1) + (List.length ([((⟨#[84]⟩ : ByteArray) ++ r) ++ r1]))) * 16)) <|
   kkn k_1 was3 was4 was5 now3 now4 now5 (out1 ++ ([((⟨#[84]⟩ : ByteArray) ++ r) ++ r1]))) (kkn k_1 was3 was4 was5 now3 now4 now5 out1)) k_ was was1 was2 now now1 now2 out
theorem gq83.j2_nat {R S : Type} (g : R → Option S) (kkn : Int → Int → Int → List (El kkb53) → Int → Int → List (El kkb53) → List ByteArray → Option R) (k_ was was1 was2 now now1 now2 out) : gq83.j2 (fun y0 y1 y2 y3 y4 y5 y6 y7 => (kkn y0 y1 y2 y3 y4 y5 y6 y7).bind g) k_ was was1 was2 now now1 now2 out = (gq83.j2 kkn k_ was was1 was2 now now1 now2 out).bind g := by
 simp only [gq83.j2, grd_bind, cnd_bind, bnd_bind, non_bind, ← gq83.j1_nat]
def gq83.j3 {R : Type} (kkn : Int → Int → Int → List (El kkb53) → List ByteArray → Option R) (k_ : Int) (was : Int) (was1 : Int) (was2 : List (El kkb53)) (now : Int) (now1 : Int) (now2 : List (El kkb53)) (out : List ByteArray) : Option R :=
 cond (decide ((List.length was2 : Int) > k_)) (
  (gq137 k_ (4 : Int)).bind fun r =>
  grd (gCat (⟨#[67]⟩ : ByteArray) r) <|
  grd (gRm (((List.length out) + (List.length ([(⟨#[67]⟩ : ByteArray) ++ r]))) * 16)) <|
  kkn k_ now now1 now2 (out ++ ([(⟨#[67]⟩ : ByteArray) ++ r]))) (kkn k_ now now1 now2 out)
theorem gq83.j3_nat {R S : Type} (g : R → Option S) (kkn : Int → Int → Int → List (El kkb53) → List ByteArray → Option R) (k_ was was1 was2 now now1 now2 out) : gq83.j3 (fun y0 y1 y2 y3 y4 => (kkn y0 y1 y2 y3 y4).bind g) k_ was was1 was2 now now1 now2 out = (gq83.j3 kkn k_ was was1 was2 now now1 now2 out).bind g := by
 simp only [gq83.j3, grd_bind, cnd_bind, bnd_bind, non_bind]
def gq83.l4 {R : Type} (kke0 : List ByteArray → Option R) : Nat → List (El kkb53) → Int → Int → List ByteArray → Option R
 | 0, _, _, _, _ => none
 | n + 1, l, i, i1, out =>
  cond (decide (i1 < i)) (
   grd (gIx i1 (List.length l)) <|
   (gq138 ((rdE kkb53 l (Int.toNat i1)).1) ((rdE kkb53 l (Int.toNat i1)).2.1) ((rdE kkb53 l (Int.toNat i1)).2.2)).bind fun r =>
   grd (gCat (⟨#[69]⟩ : ByteArray) r) <|
   grd (gRm (((List.length out) + (List.length ([(⟨#[69]⟩ : ByteArray) ++ r]))) * 16)) <|
   gq83.l4 kke0 n l i (IntKind.wrap .i64 (i1 + (1 : Int))) (out ++ ([(⟨#[69]⟩ : ByteArray) ++ r]))) (kke0 out)
theorem gq83.l4_nat {R S : Type} (g : R → Option S) (kke0 : List ByteArray → Option R) : ∀ n l i i1 out, gq83.l4 (fun y0 => (kke0 y0).bind g) n l i i1 out = (gq83.l4 kke0 n l i i1 out).bind g := by
 intro n
 induction n with
 | zero => intros; rfl
 | succ n ih => intros; simp only [gq83.l4, grd_bind, cnd_bind, bnd_bind, non_bind, ih]
def gq83.F {R : Type} (kk : List ByteArray → Option R) (was_Term : Int) (was_Vote : Int) (was_Log : List (El kkb53)) (now_Term : Int) (now_Vote : Int) (now_Log : List (El kkb53)) : Option R :=
 (gq136 was_Log now_Log).bind fun r =>
 gq83.j2 (fun k_ was was1 was2 now now1 now2 out =>
  gq83.j3 (fun k_1 now3 now4 now5 out1 =>
   grd (gSl k_1 (List.length now5 : Int) (List.length now5)) <|
   gq83.l4 (fun out2 => kk out2) fuel (sub now5 k_1 (List.length now5 : Int)) (List.length (sub now5 k_1 (List.length now5 : Int)) : Int) (0 : Int) out1) k_ was was1 was2 now now1 now2 out) r was_Term was_Vote was_Log now_Term now_Vote now_Log ([] : List ByteArray)
theorem gq83.F_nat {R S : Type} (g : R → Option S) (kk : List ByteArray → Option R) (was_Term was_Vote was_Log now_Term now_Vote now_Log) : gq83.F (fun y0 => (kk y0).bind g) was_Term was_Vote was_Log now_Term now_Vote now_Log = (gq83.F kk was_Term was_Vote was_Log now_Term now_Vote now_Log).bind g := by
 simp only [gq83.F, grd_bind, cnd_bind, bnd_bind, non_bind, ← gq83.j2_nat, ← gq83.j3_nat, ← gq83.l4_nat]
def gq83 (was_Term : Int) (was_Vote : Int) (was_Log : List (El kkb53)) (now_Term : Int) (now_Vote : Int) (now_Log : List (El kkb53)) : Option (List ByteArray) := gq83.F (fun y0 => some y0) was_Term was_Vote was_Log now_Term now_Vote now_Log
def gq83.out : (List ByteArray) → CRes := fun a => ⟨encL SV.enc [.one (.own [] .str true)] (a, ()), [encL SC.enc [] (), encL SC.enc [] ()]⟩
def gq83.ps : List PS := [.val [none, none, some (kkb53, false)], .val [none, none, some (kkb53, false)]]
def gq83.sA : List SA := [.v (.agg [.int .i64, .int .i64, .slv [] kkb53]), .v (.agg [.int .i64, .int .i64, .slv [] kkb53])]
def gq83.fi : FI := FIs gq83.sA (List ByteArray) (fun t => gq83 t.1.1 t.1.2.1 t.1.2.2.1 t.2.1.1 t.2.1.2.1 t.2.1.2.2.1) gq83.out gq83.ps
def gq83.E : Env := ⟨tt, lkF [(136, gq136.fi), (137, gq137.fi), (138, gq138.fi)], 67, 0, [], []⟩
def gq83.sh1 : SK := ⟨[.v (.one (.bptr 0 0)), .v (.one (.bptr 1 0)), .v (.one (.slo 2)), .v (.one (.int .i64))], [.box [.int .i64, .int .i64, .slv [1] kkb53], .box [.int .i64, .int .i64, .slv [2] kkb53], .arr .str [] true]⟩
def gq83.sh1n : SK := ⟨[.v (.one (.bptr 0 0)), .v (.one (.bptr 1 0)), .v (.one (.slo 2)), .v (.one (.int .i64)), .v (.one (.bool))], [.box [.int .i64, .int .i64, .slv [1] kkb53], .box [.int .i64, .int .i64, .slv [2] kkb53], .arr .str [] true]⟩
def gq83.ko1 : Ex → List CastAt × List Nat
 | .nrm => ([], [2, 3, 5, 6, 26])
 | .ret => ([], [])
 | .ext i => ([], [])
def gq83.G1 (R : Type) (t : gq83.sh1.T) (K : Ex → Kp → Option R) : Option R := gq83.j1 (fun y0 y1 y2 y3 y4 y5 y6 y7 y8 => K .nrm (SK.enc gq83.sh1n (((), (), (), y0, y1, ()), ((y2, y3, y4, ()), (y5, y6, y7, ()), y8, ())))) t.1.2.2.2.1 t.2.1.1 t.2.1.2.1 t.2.1.2.2.1 t.2.2.1.1 t.2.2.1.2.1 t.2.2.1.2.2.1 t.2.2.2.1
def gq83.S1 : Sum := ⟨([], [2, 3, 5, 6]), sumF gq83.sh1 (gq83.G1), gq83.ko1⟩
theorem gq83.ok1 (hE : EOk Tryz.prog (gq83.E)) : SumOk Tryz.prog gq83.E (cL (cL (cR (cR (bodyOf Tryz.f83))))) (gq83.S1) := by
 have hh : HintOk Tryz.prog gq83.E (cL (cL (cR (cR (bodyOf Tryz.f83))))) (.a) := HintOk.n1 (Q := True) (by kernel_rfl) trivial
 exact sumS (kin := ([], [2, 3, 5, 6])) (kout := gq83.ko1) (sh := gq83.sh1) (F := gq83.G1) (ops_ok (hE.gv _)) (by kernel_rfl) hh (fun R t K => by kernel_rfl)
def gq83.sh2 : SK := ⟨[.v (.one (.bptr 0 0)), .v (.one (.bptr 1 0)), .v (.one (.slo 2)), .v (.one (.int .i64))], [.box [.int .i64, .int .i64, .slv [1] kkb53], .box [.int .i64, .int .i64, .slv [2] kkb53], .arr .str [] true]⟩
def gq83.sh2n : SK := ⟨[.v (.one (.bptr 0 0)), .v (.one (.bptr 1 0)), .v (.one (.slo 2)), .v (.one (.int .i64))], [.box [.int .i64, .int .i64, .slv [1] kkb53], .box [.int .i64, .int .i64, .slv [2] kkb53], .arr .str [] true]⟩
def gq83.ko2 : Ex → List CastAt × List Nat
 | .nrm => ([], [2, 3, 5, 6])
 | .ret => ([], [])
 | .ext i => ([], [])
def gq83.G2 (R : Type) (t : gq83.sh2.T) (K : Ex → Kp → Option R) : Option R := gq83.j2 (fun y0 y1 y2 y3 y4 y5 y6 y7 => K .nrm (SK.enc gq83.sh2n (((), (), (), y0, ()), ((y1, y2, y3, ()), (y4, y5, y6, ()), y7, ())))) t.1.2.2.2.1 t.2.1.1 t.2.1.2.1 t.2.1.2.2.1 t.2.2.1.1 t.2.2.1.2.1 t.2.2.1.2.2.1 t.2.2.2.1
def gq83.S2 : Sum := ⟨([], [2, 3, 5, 6]), sumF gq83.sh2 (gq83.G2), gq83.ko2⟩
theorem gq83.ok2 (hE : EOk Tryz.prog (gq83.E)) : SumOk Tryz.prog gq83.E (cL (cR (cR (bodyOf Tryz.f83)))) (gq83.S2) := by
 have hh : HintOk Tryz.prog gq83.E (cL (cR (cR (bodyOf Tryz.f83)))) (.n (.s (gq83.S1)) (.a)) := HintOk.n1 (Q := (SumOk Tryz.prog gq83.E (cL (cL (cR (cR (bodyOf Tryz.f83))))) (gq83.S1)) ∧ (True)) (by kernel_rfl) ⟨(gq83.ok1 hE), trivial⟩
 exact sumS (kin := ([], [2, 3, 5, 6])) (kout := gq83.ko2) (sh := gq83.sh2) (F := gq83.G2) (ops_ok (hE.gv _)) (by kernel_rfl) hh (fun R t K => by kernel_rfl)
def gq83.sh3 : SK := ⟨[.v (.one (.bptr 0 0)), .v (.one (.bptr 1 0)), .v (.one (.slo 2)), .v (.one (.int .i64))], [.box [.int .i64, .int .i64, .slv [1] kkb53], .box [.int .i64, .int .i64, .slv [2] kkb53], .arr .str [] true]⟩
def gq83.sh3n : SK := ⟨[.v (.one (.bptr 0 0)), .v (.one (.slo 1)), .v (.one (.int .i64))], [.box [.int .i64, .int .i64, .slv [2] kkb53], .arr .str [] true]⟩
def gq83.ko3 : Ex → List CastAt × List Nat
 | .nrm => ([], [3, 5, 6])
 | .ret => ([], [])
 | .ext i => ([], [])
def gq83.G3 (R : Type) (t : gq83.sh3.T) (K : Ex → Kp → Option R) : Option R := gq83.j3 (fun y0 y1 y2 y3 y4 => K .nrm (SK.enc gq83.sh3n (((), (), y0, ()), ((y1, y2, y3, ()), y4, ())))) t.1.2.2.2.1 t.2.1.1 t.2.1.2.1 t.2.1.2.2.1 t.2.2.1.1 t.2.2.1.2.1 t.2.2.1.2.2.1 t.2.2.2.1
def gq83.S3 : Sum := ⟨([], [2, 3, 5, 6]), sumF gq83.sh3 (gq83.G3), gq83.ko3⟩
theorem gq83.ok3 (hE : EOk Tryz.prog (gq83.E)) : SumOk Tryz.prog gq83.E (cL (cR (cR (cR (bodyOf Tryz.f83))))) (gq83.S3) := by
 have hh : HintOk Tryz.prog gq83.E (cL (cR (cR (cR (bodyOf Tryz.f83))))) (.a) := HintOk.n1 (Q := True) (by kernel_rfl) trivial
 exact sumS (kin := ([], [2, 3, 5, 6])) (kout := gq83.ko3) (sh := gq83.sh3) (F := gq83.G3) (ops_ok (hE.gv _)) (by kernel_rfl) hh (fun R t K => by kernel_rfl)
def gq83.sh4 : SK := ⟨[.v (.one (.slo 0)), .v (.one (.slv [2] kkb53)), .v (.one (.int .i64)), .v (.one (.int .i64))], [.arr .str [] true]⟩
def gq83.sh4e0 : SK := ⟨[.v (.one (.slo 0))], [.arr .str [] true]⟩
def gq83.ko4 : Ex → List CastAt × List Nat
 | .nrm => ([], [])
 | .ret => ([], [])
 | .ext i => cond (Nat.beq i 0) ([], [5]) ([], [])
def gq83.G4 (n : Nat) (R : Type) (t : gq83.sh4.T) (K : Ex → Kp → Option R) : Option R := gq83.l4 (fun y0 => K (.ext 0) (SK.enc gq83.sh4e0 (((), ()), (y0, ())))) n t.1.2.1 t.1.2.2.1 t.1.2.2.2.1 t.2.1
def gq83.S4 : Sum := ⟨([], [5, 53, 54, 55]), sumF gq83.sh4 (gq83.G4 fuel), gq83.ko4⟩
theorem gq83.ok4 (hE : EOk Tryz.prog (gq83.E)) : SumOk Tryz.prog gq83.E (cB (cR (cL (cR (cR (cR (cR (bodyOf Tryz.f83)))))))) (gq83.S4) := by
 have hh : HintOk Tryz.prog gq83.E (cB (cB (cR (cL (cR (cR (cR (cR (bodyOf Tryz.f83))))))))) (.a) := HintOk.n1 (Q := True) (by kernel_rfl) trivial
 have h := loopS (kin := ([], [5, 53, 54, 55])) (kout := gq83.ko4) (sh := gq83.sh4) (F := gq83.G4) (ops_ok (hE.gv _)) (by kernel_rfl) hh (fun _ _ _ => rfl) (fun n R t K => by kernel_rfl) fuel
 exact HintOk.n1 (c := (cB (cR (cL (cR (cR (cR (cR (bodyOf Tryz.f83))))))))) (h := .s (gq83.S4)) (P := Tryz.prog) (E := gq83.E) (by kernel_rfl) h
theorem gq83.hok (hE : EOk Tryz.prog (gq83.E)) : HintOk Tryz.prog gq83.E (bodyOf Tryz.f83) (.n (.a) (.n (.a) (.n (.s (gq83.S2)) (.n (.s (gq83.S3)) (.n (.n (.a) (.b (.s (gq83.S4)))) (.a)))))) := HintOk.n1 (Q := (True) ∧ ((True) ∧ ((SumOk Tryz.prog gq83.E (cL (cR (cR (bodyOf Tryz.f83)))) (gq83.S2)) ∧ ((SumOk Tryz.prog gq83.E (cL (cR (cR (cR (bodyOf Tryz.f83))))) (gq83.S3)) ∧ (((True) ∧ (SumOk Tryz.prog gq83.E (cB (cR (cL (cR (cR (cR (cR (bodyOf Tryz.f83)))))))) (gq83.S4))) ∧ (True)))))) (by kernel_rfl) ⟨trivial, ⟨trivial, ⟨(gq83.ok2 hE), ⟨(gq83.ok3 hE), ⟨⟨trivial, (gq83.ok4 hE)⟩, trivial⟩⟩⟩⟩⟩
theorem gq83.hE : EOk Tryz.prog (gq83.E) := EOk.of ttOk (⟨gq136.fok, ⟨gq137.fok, ⟨gq138.fok, trivial⟩⟩⟩)
theorem gq83.fok : FOk Tryz.prog 83 gq83.fi :=
 fokS (E := gq83.E) (wy := ⟨[[some (.str, true)]], [[], []], []⟩) (h := (fun gs => .n (.a) (.n (.a) (.n (.s (gq83.S2)) (.n (.s (gq83.S3)) (.n (.n (.a) (.b (.s (gq83.S4)))) (.a))))))) (G := fun t g => gq83.F (fun y0 => g y0) t.1.1 t.1.2.1 t.1.2.2.1 t.2.1.1 t.2.1.2.1 t.2.1.2.2.1) (by kernel_rfl) gq83.hE Tryz.func83 (by kernel_rfl) rfl (Nat.le_refl _) (fun t => HintOk.n1 (by kernel_rfl) (gq83.hok gq83.hE)) (fun t g => gq83.F_nat g (fun y0 => some y0) _ _ _ _ _ _) (fun t => by kernel_rfl)
def gq36.l1 {R : Type} (kke0 : Int → Int → List (El kFile) → Option R) (kkr : Int → Int → Option R) : Nat → Int → Int → Int → Int → List ByteArray → List (El kFile) → Option R
 | 0, _, _, _, _, _, _ => none
 | n + 1, i, i1, i2, out, l, l1 =>
  cond (decide (i1 < i)) (
   grd (gIx i1 (List.length l)) <|
   (gq71 out l1 (rdE (.str : Kd) l (Int.toNat i1))).bind fun r =>
   cond (r.2.2 != (0 : Int)) (kkr r.2.2 (0 : Int)) (gq36.l1 kke0 kkr n i (IntKind.wrap .i64 (i1 + (1 : Int))) i2 r.1 l r.2.1)) (kke0 i2 out l1)
theorem gq36.l1_nat {R S : Type} (g : R → Option S) (kke0 : Int → Int → List (El kFile) → Option R) (kkr : Int → Int → Option R) : ∀ n i i1 i2 out l l1, gq36.l1 (fun y0 y1 y2 => (kke0 y0 y1 y2).bind g) (fun y0 y1 => (kkr y0 y1).bind g) n i i1 i2 out l l1 = (gq36.l1 kke0 kkr n i i1 i2 out l l1).bind g := by
 intro n
 induction n with
 | zero => intros; rfl
 | succ n ih => intros; simp only [gq36.l1, grd_bind, cnd_bind, bnd_bind, non_bind, ih]
def gq36.F {R : Type} (kk : Int → List (El kFile) → Int → Option R) (d_Room : Int) (d_Files : List (El kFile)) (was_Term : Int) (was_Vote : Int) (was_Log : List (El kkb53)) (now_Term : Int) (now_Vote : Int) (now_Log : List (El kkb53)) : Option R :=
 (gq65 d_Room d_Files).bind fun r =>
 cond (!r) (kk (0 : Int) [] (1 : Int)) (
  (gq47 was_Term was_Vote was_Log).bind fun r1 =>
  cond (!r1) (kk (0 : Int) [] (1 : Int)) (
   (gq47 now_Term now_Vote now_Log).bind fun r2 =>
   cond (!r2) (kk (0 : Int) [] (1 : Int)) (
    (gq53 d_Room d_Files).bind fun r3 =>
    (gq83 was_Term was_Vote was_Log now_Term now_Vote now_Log).bind fun r4 =>
    gq36.l1 (fun i out l =>
     (gq72 out l).bind fun r5 =>
     kk r5.1 r5.2 (0 : Int)) (fun i1 i2 => kk i2 [] i1) fuel (List.length r4 : Int) (0 : Int) (0 : Int) r3.1 r4 r3.2)))
theorem gq36.F_nat {R S : Type} (g : R → Option S) (kk : Int → List (El kFile) → Int → Option R) (d_Room d_Files was_Term was_Vote was_Log now_Term now_Vote now_Log) : gq36.F (fun y0 y1 y2 => (kk y0 y1 y2).bind g) d_Room d_Files was_Term was_Vote was_Log now_Term now_Vote now_Log = (gq36.F kk d_Room d_Files was_Term was_Vote was_Log now_Term now_Vote now_Log).bind g := by
 simp only [gq36.F, grd_bind, cnd_bind, bnd_bind, non_bind, ← gq36.l1_nat]
def gq36 (d_Room : Int) (d_Files : List (El kFile)) (was_Term : Int) (was_Vote : Int) (was_Log : List (El kkb53)) (now_Term : Int) (now_Vote : Int) (now_Log : List (El kkb53)) : Option (Int × List (El kFile) × Int) := gq36.F (fun y0 y1 y2 => some (y0, y1, y2)) d_Room d_Files was_Term was_Vote was_Log now_Term now_Vote now_Log
def gq36.out : (Int × List (El kFile) × Int) → CRes := fun a => ⟨encL SV.enc [.agg [.int .i64, .own [] kFile true], .one (.int .i64)] ((a.1, a.2.1, ()), a.2.2, ()), [encL SC.enc [] (), encL SC.enc [] (), encL SC.enc [] ()]⟩
def gq36.ps : List PS := [.val [none, some (kFile, false)], .val [none, none, some (kkb53, false)], .val [none, none, some (kkb53, false)]]
def gq36.sA : List SA := [.v (.agg [.int .i64, .slv [] kFile]), .v (.agg [.int .i64, .int .i64, .slv [] kkb53]), .v (.agg [.int .i64, .int .i64, .slv [] kkb53])]
def gq36.fi : FI := FIs gq36.sA (Int × List (El kFile) × Int) (fun t => gq36 t.1.1 t.1.2.1 t.2.1.1 t.2.1.2.1 t.2.1.2.2.1 t.2.2.1.1 t.2.2.1.2.1 t.2.2.1.2.2.1) gq36.out gq36.ps
def gq36.E : Env := ⟨tt, lkF [(47, gq47.fi), (53, gq53.fi), (65, gq65.fi), (71, gq71.fi), (72, gq72.fi), (83, gq83.fi)], 51, 0, [], []⟩
def gq36.sh1 : SK := ⟨[.v (.one (.bptr 0 0)), .v (.one (.bptr 1 0)), .v (.one (.slo 2)), .v (.one (.int .i64)), .v (.one (.int .i64))], [.box [.int .i64, .nil], .box [.int .i64, .slo 3], .arr .str [] true, .arr kFile [] true]⟩
def gq36.sh1e0 : SK := ⟨[.v (.one (.bptr 0 0)), .v (.one (.bptr 1 0))], [.box [.int .i64, .nil], .box [.int .i64, .slo 2], .arr kFile [] true]⟩
def gq36.sh1r : SK := ⟨[.v (.one (.bptr 0 0)), .v (.one (.int .i64))], [.box [.int .i64, .nil]]⟩
def gq36.ko1 : Ex → List CastAt × List Nat
 | .nrm => ([], [])
 | .ret => ([], [6, 7])
 | .ext i => cond (Nat.beq i 0) ([], [6, 8]) ([], [])
def gq36.G1 (n : Nat) (R : Type) (t : gq36.sh1.T) (K : Ex → Kp → Option R) : Option R := gq36.l1 (fun y0 y1 y2 => K (.ext 0) (SK.enc gq36.sh1e0 (((), (), ()), ((y0, (), ()), (y1, (), ()), y2, ())))) (fun y0 y1 => K .ret (SK.enc gq36.sh1r (((), y0, ()), ((y1, (), ()), ())))) n t.1.2.2.2.1 t.1.2.2.2.2.1 t.2.1.1 t.2.2.1.1 t.2.2.2.1 t.2.2.2.2.1
def gq36.S1 : Sum := ⟨([], [6, 8, 31, 32, 33]), sumF gq36.sh1 (gq36.G1 fuel), gq36.ko1⟩
theorem gq36.ok1 (hE : EOk Tryz.prog (gq36.E)) : SumOk Tryz.prog gq36.E (cB (cR (cL (cR (cR (cR (bodyOf Tryz.f36))))))) (gq36.S1) := by
 have hh : HintOk Tryz.prog gq36.E (cB (cB (cR (cL (cR (cR (cR (bodyOf Tryz.f36)))))))) (.a) := HintOk.n1 (Q := True) (by kernel_rfl) trivial
 have h := loopS (kin := ([], [6, 8, 31, 32, 33])) (kout := gq36.ko1) (sh := gq36.sh1) (F := gq36.G1) (ops_ok (hE.gv _)) (by kernel_rfl) hh (fun _ _ _ => rfl) (fun n R t K => by kernel_rfl) fuel
 exact HintOk.n1 (c := (cB (cR (cL (cR (cR (cR (bodyOf Tryz.f36)))))))) (h := .s (gq36.S1)) (P := Tryz.prog) (E := gq36.E) (by kernel_rfl) h
theorem gq36.hok (hE : EOk Tryz.prog (gq36.E)) : HintOk Tryz.prog gq36.E (bodyOf Tryz.f36) (.n (.a) (.n (.a) (.n (.a) (.n (.n (.a) (.b (.s (gq36.S1)))) (.a))))) := HintOk.n1 (Q := (True) ∧ ((True) ∧ ((True) ∧ (((True) ∧ (SumOk Tryz.prog gq36.E (cB (cR (cL (cR (cR (cR (bodyOf Tryz.f36))))))) (gq36.S1))) ∧ (True))))) (by kernel_rfl) ⟨trivial, ⟨trivial, ⟨trivial, ⟨⟨trivial, (gq36.ok1 hE)⟩, trivial⟩⟩⟩⟩
theorem gq36.hE : EOk Tryz.prog (gq36.E) := EOk.of ttOk (⟨gq47.fok, ⟨gq53.fok, ⟨gq65.fok, ⟨gq71.fok, ⟨gq72.fok, ⟨gq83.fok, trivial⟩⟩⟩⟩⟩⟩)
theorem gq36.fok : FOk Tryz.prog 36 gq36.fi :=
 fokS (E := gq36.E) (wy := ⟨[[none, some (kFile, true)], [none]], [[], [], []], []⟩) (h := (fun gs => .n (.a) (.n (.a) (.n (.a) (.n (.n (.a) (.b (.s (gq36.S1)))) (.a)))))) (G := fun t g => gq36.F (fun y0 y1 y2 => g (y0, y1, y2)) t.1.1 t.1.2.1 t.2.1.1 t.2.1.2.1 t.2.1.2.2.1 t.2.2.1.1 t.2.2.1.2.1 t.2.2.1.2.2.1) (by kernel_rfl) gq36.hE Tryz.func36 (by kernel_rfl) rfl (Nat.le_refl _) (fun t => HintOk.n1 (by kernel_rfl) (gq36.hok gq36.hE)) (fun t g => gq36.F_nat g (fun y0 y1 y2 => some (y0, y1, y2)) _ _ _ _ _ _ _ _) (fun t => by kernel_rfl)
def gq63.F {R : Type} (kk : List Int → Int → Int → Option R) (code : List Int) : Option R :=
 grd (gNz (1000 : Int)) <|
 kk code (0 : Int) (Int.tmod (List.length code : Int) (1000 : Int))
theorem gq63.F_nat {R S : Type} (g : R → Option S) (kk : List Int → Int → Int → Option R) (code) : gq63.F (fun y0 y1 y2 => (kk y0 y1 y2).bind g) code = (gq63.F kk code).bind g := by
 simp only [gq63.F, grd_bind, cnd_bind, bnd_bind, non_bind]
def gq63 (code : List Int) : Option (List Int × Int × Int) := gq63.F (fun y0 y1 y2 => some (y0, y1, y2)) code
def gq63.out : (List Int × Int × Int) → CRes := fun a => ⟨encL SV.enc [.pbx [.slv [1] (.int .u8), .int .i64, .int .i64]] ((a.1, a.2.1, a.2.2, ()), ()), [encL SC.enc [] ()]⟩
def gq63.ps : List PS := [.val [some ((.int .u8), false)]]
def gq63.sA : List SA := [.v (.one (.slv [] (.int .u8)))]
def gq63.fi : FI := FIs gq63.sA (List Int × Int × Int) (fun t => gq63 t.1) gq63.out gq63.ps
def gq63.E : Env := ⟨tt, lkF [], 9, 0, [], []⟩
theorem gq63.hok (hE : EOk Tryz.prog (gq63.E)) : HintOk Tryz.prog gq63.E (bodyOf Tryz.f63) (.a) := HintOk.n1 (Q := True) (by kernel_rfl) trivial
theorem gq63.hE : EOk Tryz.prog (gq63.E) := EOk.of ttOk (trivial)
theorem gq63.fok : FOk Tryz.prog 63 gq63.fi :=
 fokS (E := gq63.E) (wy := ⟨[[some ((.int .u8), false), none, none]], [[]], []⟩) (h := (fun gs => .a)) (G := fun t g => gq63.F (fun y0 y1 y2 => g (y0, y1, y2)) t.1) (by kernel_rfl) gq63.hE Tryz.func63 (by kernel_rfl) rfl (Nat.le_refl _) (fun t => HintOk.n1 (by kernel_rfl) (gq63.hok gq63.hE)) (fun t g => gq63.F_nat g (fun y0 y1 y2 => some (y0, y1, y2)) _) (fun t => by kernel_rfl)
def gq161.F {R : Type} (kk : Int → List Int → Int → Int → Option R) (s_code : List Int) (s_at : Int) (s_seed : Int) : Option R :=
 cond (decide ((IntKind.wrap .i64 (s_at + (1 : Int))) ≤ (List.length s_code : Int))) (
  grd (gIx (IntKind.wrap .i64 ((IntKind.wrap .i64 (s_at + (1 : Int))) - (1 : Int))) (List.length s_code)) <|
  grd (gNz (2147483648 : Int)) <|
  grd (gIx (IntKind.wrap .i64 ((IntKind.wrap .i64 (s_at + (1 : Int))) - (1 : Int))) (List.length s_code)) <|
  kk (IntKind.wrap .i64 (rdE (.int .u8 : Kd) s_code (Int.toNat (IntKind.wrap .i64 ((IntKind.wrap .i64 (s_at + (1 : Int))) - (1 : Int)))))) s_code (IntKind.wrap .i64 (s_at + (1 : Int))) (Int.tmod (IntKind.wrap .i64 ((IntKind.wrap .i64 ((IntKind.wrap .i64 (s_seed * (31 : Int))) + (IntKind.wrap .i64 (rdE (.int .u8 : Kd) s_code (Int.toNat (IntKind.wrap .i64 ((IntKind.wrap .i64 (s_at + (1 : Int))) - (1 : Int)))))))) + (7 : Int))) (2147483648 : Int))) (
  cond (decide ((IntKind.wrap .i64 (s_at + (1 : Int))) > (3000 : Int))) (kk (0 : Int) s_code (IntKind.wrap .i64 (s_at + (1 : Int))) s_seed) (
   grd (gNz (2147483648 : Int)) <|
   grd (gNz (65536 : Int)) <|
   grd (gNz (256 : Int)) <|
   kk (Int.tmod (IntKind.wrap .i64 (Int.tdiv (Int.tmod (IntKind.wrap .i64 ((IntKind.wrap .i64 (s_seed * (1103515245 : Int))) + (12345 : Int))) (2147483648 : Int)) (65536 : Int))) (256 : Int)) s_code (IntKind.wrap .i64 (s_at + (1 : Int))) (Int.tmod (IntKind.wrap .i64 ((IntKind.wrap .i64 (s_seed * (1103515245 : Int))) + (12345 : Int))) (2147483648 : Int))))
theorem gq161.F_nat {R S : Type} (g : R → Option S) (kk : Int → List Int → Int → Int → Option R) (s_code s_at s_seed) : gq161.F (fun y0 y1 y2 y3 => (kk y0 y1 y2 y3).bind g) s_code s_at s_seed = (gq161.F kk s_code s_at s_seed).bind g := by
 simp only [gq161.F, grd_bind, cnd_bind, bnd_bind, non_bind]
def gq161 (s_code : List Int) (s_at : Int) (s_seed : Int) : Option (Int × List Int × Int × Int) := gq161.F (fun y0 y1 y2 y3 => some (y0, y1, y2, y3)) s_code s_at s_seed
def gq161.out : (Int × List Int × Int × Int) → CRes := fun a => ⟨encL SV.enc [.one (.int .i64)] (a.1, ()), [encL SC.enc [.slv [1] (.int .u8), .int .i64, .int .i64] (a.2.1, a.2.2.1, a.2.2.2, ())]⟩
def gq161.ps : List PS := [.ptr [some ((.int .u8), false), none, none]]
def gq161.sA : List SA := [.ptr [.slv [] (.int .u8), .int .i64, .int .i64]]
def gq161.fi : FI := FIs gq161.sA (Int × List Int × Int × Int) (fun t => gq161 t.1.1 t.1.2.1 t.1.2.2.1) gq161.out gq161.ps
def gq161.E : Env := ⟨tt, lkF [], 76, 1, [], []⟩
theorem gq161.hok (hE : EOk Tryz.prog (gq161.E)) : HintOk Tryz.prog gq161.E (bodyOf Tryz.f161) (.a) := HintOk.n1 (Q := True) (by kernel_rfl) trivial
theorem gq161.hE : EOk Tryz.prog (gq161.E) := EOk.of ttOk (trivial)
theorem gq161.fok : FOk Tryz.prog 161 gq161.fi :=
 fokS (E := gq161.E) (wy := ⟨[[none]], [[some ((.int .u8), false), none, none]], []⟩) (h := (fun gs => .a)) (G := fun t g => gq161.F (fun y0 y1 y2 y3 => g (y0, y1, y2, y3)) t.1.1 t.1.2.1 t.1.2.2.1) (by kernel_rfl) gq161.hE Tryz.func161 (by kernel_rfl) rfl (Nat.le_refl _) (fun t => HintOk.n1 (by kernel_rfl) (gq161.hok gq161.hE)) (fun t g => gq161.F_nat g (fun y0 y1 y2 y3 => some (y0, y1, y2, y3)) _ _ _) (fun t => by kernel_rfl)
def gq140.F {R : Type} (kk : Int → List Int → Int → Int → Option R) (s_code : List Int) (s_at : Int) (s_seed : Int) (n_ : Int) : Option R :=
 cond (decide (n_ ≤ (1 : Int))) (kk (0 : Int) s_code s_at s_seed) (
  cond (decide (n_ ≤ (256 : Int))) (
   (gq161 s_code s_at s_seed).bind fun r =>
   grd (gNz n_) <|
   kk (Int.tmod r.1 n_) r.2.1 r.2.2.1 r.2.2.2) (
   (gq161 s_code s_at s_seed).bind fun r1 =>
   (gq161 r1.2.1 r1.2.2.1 r1.2.2.2).bind fun r2 =>
   (gq161 r2.2.1 r2.2.2.1 r2.2.2.2).bind fun r3 =>
   grd (gNz n_) <|
   kk (Int.tmod (IntKind.wrap .i64 ((IntKind.wrap .i64 ((IntKind.wrap .i64 (r1.1 * (65536 : Int))) + (IntKind.wrap .i64 (r2.1 * (256 : Int))))) + r3.1)) n_) r3.2.1 r3.2.2.1 r3.2.2.2))
theorem gq140.F_nat {R S : Type} (g : R → Option S) (kk : Int → List Int → Int → Int → Option R) (s_code s_at s_seed n_) : gq140.F (fun y0 y1 y2 y3 => (kk y0 y1 y2 y3).bind g) s_code s_at s_seed n_ = (gq140.F kk s_code s_at s_seed n_).bind g := by
 simp only [gq140.F, grd_bind, cnd_bind, bnd_bind, non_bind]
def gq140 (s_code : List Int) (s_at : Int) (s_seed : Int) (n_ : Int) : Option (Int × List Int × Int × Int) := gq140.F (fun y0 y1 y2 y3 => some (y0, y1, y2, y3)) s_code s_at s_seed n_
def gq140.out : (Int × List Int × Int × Int) → CRes := fun a => ⟨encL SV.enc [.one (.int .i64)] (a.1, ()), [encL SC.enc [.slv [1] (.int .u8), .int .i64, .int .i64] (a.2.1, a.2.2.1, a.2.2.2, ()), encL SC.enc [] ()]⟩
def gq140.ps : List PS := [.ptr [some ((.int .u8), false), none, none], .val [none]]
def gq140.sA : List SA := [.ptr [.slv [] (.int .u8), .int .i64, .int .i64], .v (.one (.int .i64))]
def gq140.fi : FI := FIs gq140.sA (Int × List Int × Int × Int) (fun t => gq140 t.1.1 t.1.2.1 t.1.2.2.1 t.2.1) gq140.out gq140.ps
def gq140.E : Env := ⟨tt, lkF [(161, gq161.fi)], 31, 1, [], []⟩
theorem gq140.hok (hE : EOk Tryz.prog (gq140.E)) : HintOk Tryz.prog gq140.E (bodyOf Tryz.f140) (.a) := HintOk.n1 (Q := True) (by kernel_rfl) trivial
theorem gq140.hE : EOk Tryz.prog (gq140.E) := EOk.of ttOk (⟨gq161.fok, trivial⟩)
theorem gq140.fok : FOk Tryz.prog 140 gq140.fi :=
 fokS (E := gq140.E) (wy := ⟨[[none]], [[some ((.int .u8), false), none, none], []], []⟩) (h := (fun gs => .a)) (G := fun t g => gq140.F (fun y0 y1 y2 y3 => g (y0, y1, y2, y3)) t.1.1 t.1.2.1 t.1.2.2.1 t.2.1) (by kernel_rfl) gq140.hE Tryz.func140 (by kernel_rfl) rfl (Nat.le_refl _) (fun t => HintOk.n1 (by kernel_rfl) (gq140.hok gq140.hE)) (fun t g => gq140.F_nat g (fun y0 y1 y2 y3 => some (y0, y1, y2, y3)) _ _ _ _) (fun t => by kernel_rfl)
def gq112.F {R : Type} (kk : ByteArray → List Int → Int → Int → Option R) (s_code : List Int) (s_at : Int) (s_seed : Int) (list : List ByteArray) : Option R :=
 cond ((List.length list : Int) == (0 : Int)) (kk ByteArray.empty s_code s_at s_seed) (
  (gq140 s_code s_at s_seed (List.length list : Int)).bind fun r =>
  grd (gIx r.1 (List.length list)) <|
  kk (rdE (.str : Kd) list (Int.toNat r.1)) r.2.1 r.2.2.1 r.2.2.2)
theorem gq112.F_nat {R S : Type} (g : R → Option S) (kk : ByteArray → List Int → Int → Int → Option R) (s_code s_at s_seed list) : gq112.F (fun y0 y1 y2 y3 => (kk y0 y1 y2 y3).bind g) s_code s_at s_seed list = (gq112.F kk s_code s_at s_seed list).bind g := by
 simp only [gq112.F, grd_bind, cnd_bind, bnd_bind, non_bind]
def gq112 (s_code : List Int) (s_at : Int) (s_seed : Int) (list : List ByteArray) : Option (ByteArray × List Int × Int × Int) := gq112.F (fun y0 y1 y2 y3 => some (y0, y1, y2, y3)) s_code s_at s_seed list
def gq112.out : (ByteArray × List Int × Int × Int) → CRes := fun a => ⟨encL SV.enc [.one (.str)] (a.1, ()), [encL SC.enc [.slv [1] (.int .u8), .int .i64, .int .i64] (a.2.1, a.2.2.1, a.2.2.2, ()), encL SC.enc [] ()]⟩
def gq112.ps : List PS := [.ptr [some ((.int .u8), false), none, none], .val [some (.str, false)]]
def gq112.sA : List SA := [.ptr [.slv [] (.int .u8), .int .i64, .int .i64], .v (.one (.slv [] .str))]
def gq112.fi : FI := FIs gq112.sA (ByteArray × List Int × Int × Int) (fun t => gq112 t.1.1 t.1.2.1 t.1.2.2.1 t.2.1) gq112.out gq112.ps
def gq112.E : Env := ⟨tt, lkF [(140, gq140.fi)], 15, 1, [], []⟩
theorem gq112.hok (hE : EOk Tryz.prog (gq112.E)) : HintOk Tryz.prog gq112.E (bodyOf Tryz.f112) (.a) := HintOk.n1 (Q := True) (by kernel_rfl) trivial
theorem gq112.hE : EOk Tryz.prog (gq112.E) := EOk.of ttOk (⟨gq140.fok, trivial⟩)
theorem gq112.fok : FOk Tryz.prog 112 gq112.fi :=
 fokS (E := gq112.E) (wy := ⟨[[none]], [[some ((.int .u8), false), none, none], []], []⟩) (h := (fun gs => .a)) (G := fun t g => gq112.F (fun y0 y1 y2 y3 => g (y0, y1, y2, y3)) t.1.1 t.1.2.1 t.1.2.2.1 t.2.1) (by kernel_rfl) gq112.hE Tryz.func112 (by kernel_rfl) rfl (Nat.le_refl _) (fun t => HintOk.n1 (by kernel_rfl) (gq112.hok gq112.hE)) (fun t g => gq112.F_nat g (fun y0 y1 y2 y3 => some (y0, y1, y2, y3)) _ _ _ _) (fun t => by kernel_rfl)
def gq150.F {R : Type} (kk : List Int → Option R) (n_ : Int) : Option R :=
 grd (gNz (256 : Int)) <|
 kk [IntKind.wrap .u8 (IntKind.wrap .i64 (Int.tdiv n_ (256 : Int))), IntKind.wrap .u8 n_]
theorem gq150.F_nat {R S : Type} (g : R → Option S) (kk : List Int → Option R) (n_) : gq150.F (fun y0 => (kk y0).bind g) n_ = (gq150.F kk n_).bind g := by
 simp only [gq150.F, grd_bind, cnd_bind, bnd_bind, non_bind]
def gq150 (n_ : Int) : Option (List Int) := gq150.F (fun y0 => some y0) n_
def gq150.out : (List Int) → CRes := fun a => ⟨encL SV.enc [.one (.own [] (.int .u8) true)] (a, ()), [encL SC.enc [] ()]⟩
def gq150.ps : List PS := [.val [none]]
def gq150.sA : List SA := [.v (.one (.int .i64))]
def gq150.fi : FI := FIs gq150.sA (List Int) (fun t => gq150 t.1) gq150.out gq150.ps
def gq150.E : Env := ⟨tt, lkF [], 9, 0, [], []⟩
theorem gq150.hok (hE : EOk Tryz.prog (gq150.E)) : HintOk Tryz.prog gq150.E (bodyOf Tryz.f150) (.a) := HintOk.n1 (Q := True) (by kernel_rfl) trivial
theorem gq150.hE : EOk Tryz.prog (gq150.E) := EOk.of ttOk (trivial)
theorem gq150.fok : FOk Tryz.prog 150 gq150.fi :=
 fokS (E := gq150.E) (wy := ⟨[[some ((.int .u8), true)]], [[]], []⟩) (h := (fun gs => .a)) (G := fun t g => gq150.F (fun y0 => g y0) t.1) (by kernel_rfl) gq150.hE Tryz.func150 (by kernel_rfl) rfl (Nat.le_refl _) (fun t => HintOk.n1 (by kernel_rfl) (gq150.hok gq150.hE)) (fun t g => gq150.F_nat g (fun y0 => some y0) _) (fun t => by kernel_rfl)
def gq162.F {R : Type} (kk : List Int → Option R) (c_Kind : Int) (c_Session : Int) (c_Seq : Int) (c_Key : ByteArray) (c_Value : ByteArray) : Option R :=
 (gq150 c_Session).bind fun r =>
 grd (gRm (((List.length [IntKind.wrap .u8 c_Kind]) + (List.length r)) * 1)) <|
 (gq150 c_Seq).bind fun r1 =>
 grd (gRm (((List.length ([IntKind.wrap .u8 c_Kind] ++ r)) + (List.length r1)) * 1)) <|
 grd (gRm (((List.length (([IntKind.wrap .u8 c_Kind] ++ r) ++ r1)) + (List.length [IntKind.wrap .u8 (ByteArray.size c_Key : Int)])) * 1)) <|
 grd (gRm (((List.length ((([IntKind.wrap .u8 c_Kind] ++ r) ++ r1) ++ [IntKind.wrap .u8 (ByteArray.size c_Key : Int)])) + (List.length (bytesL c_Key))) * 1)) <|
 grd (gRm (((List.length (((([IntKind.wrap .u8 c_Kind] ++ r) ++ r1) ++ [IntKind.wrap .u8 (ByteArray.size c_Key : Int)]) ++ (bytesL c_Key))) + (List.length [IntKind.wrap .u8 (ByteArray.size c_Value : Int)])) * 1)) <|
 grd (gRm (((List.length ((((([IntKind.wrap .u8 c_Kind] ++ r) ++ r1) ++ [IntKind.wrap .u8 (ByteArray.size c_Key : Int)]) ++ (bytesL c_Key)) ++ [IntKind.wrap .u8 (ByteArray.size c_Value : Int)])) + (List.length (bytesL c_Value))) * 1)) <|
 kk (((((([IntKind.wrap .u8 c_Kind] ++ r) ++ r1) ++ [IntKind.wrap .u8 (ByteArray.size c_Key : Int)]) ++ (bytesL c_Key)) ++ [IntKind.wrap .u8 (ByteArray.size c_Value : Int)]) ++ (bytesL c_Value))
theorem gq162.F_nat {R S : Type} (g : R → Option S) (kk : List Int → Option R) (c_Kind c_Session c_Seq c_Key c_Value) : gq162.F (fun y0 => (kk y0).bind g) c_Kind c_Session c_Seq c_Key c_Value = (gq162.F kk c_Kind c_Session c_Seq c_Key c_Value).bind g := by
 simp only [gq162.F, grd_bind, cnd_bind, bnd_bind, non_bind]
def gq162 (c_Kind : Int) (c_Session : Int) (c_Seq : Int) (c_Key : ByteArray) (c_Value : ByteArray) : Option (List Int) := gq162.F (fun y0 => some y0) c_Kind c_Session c_Seq c_Key c_Value
def gq162.out : (List Int) → CRes := fun a => ⟨encL SV.enc [.one (.own [] (.int .u8) true)] (a, ()), [encL SC.enc [] ()]⟩
def gq162.ps : List PS := [.val [none, none, none, none, none]]
def gq162.sA : List SA := [.v (.agg [.int .i64, .int .i64, .int .i64, .str, .str])]
def gq162.fi : FI := FIs gq162.sA (List Int) (fun t => gq162 t.1.1 t.1.2.1 t.1.2.2.1 t.1.2.2.2.1 t.1.2.2.2.2.1) gq162.out gq162.ps
def gq162.E : Env := ⟨tt, lkF [(150, gq150.fi)], 37, 0, [], []⟩
theorem gq162.hok (hE : EOk Tryz.prog (gq162.E)) : HintOk Tryz.prog gq162.E (bodyOf Tryz.f162) (.a) := HintOk.n1 (Q := True) (by kernel_rfl) trivial
theorem gq162.hE : EOk Tryz.prog (gq162.E) := EOk.of ttOk (⟨gq150.fok, trivial⟩)
theorem gq162.fok : FOk Tryz.prog 162 gq162.fi :=
 fokS (E := gq162.E) (wy := ⟨[[some ((.int .u8), true)]], [[]], []⟩) (h := (fun gs => .a)) (G := fun t g => gq162.F (fun y0 => g y0) t.1.1 t.1.2.1 t.1.2.2.1 t.1.2.2.2.1 t.1.2.2.2.2.1) (by kernel_rfl) gq162.hE Tryz.func162 (by kernel_rfl) rfl (Nat.le_refl _) (fun t => HintOk.n1 (by kernel_rfl) (gq162.hok gq162.hE)) (fun t g => gq162.F_nat g (fun y0 => some y0) _ _ _ _ _) (fun t => by kernel_rfl)
def gq179.F {R : Type} (kk : ByteArray → List Int → Int → Int → Option R) (s_code : List Int) (s_at : Int) (s_seed : Int) : Option R :=
 (gq112 s_code s_at s_seed [(⟨#[97]⟩ : ByteArray), (⟨#[98]⟩ : ByteArray), (⟨#[99]⟩ : ByteArray), (⟨#[97, 108, 112, 104, 97]⟩ : ByteArray), (⟨#[98, 101, 116, 97]⟩ : ByteArray)]).bind fun r =>
 kk r.1 r.2.1 r.2.2.1 r.2.2.2
theorem gq179.F_nat {R S : Type} (g : R → Option S) (kk : ByteArray → List Int → Int → Int → Option R) (s_code s_at s_seed) : gq179.F (fun y0 y1 y2 y3 => (kk y0 y1 y2 y3).bind g) s_code s_at s_seed = (gq179.F kk s_code s_at s_seed).bind g := by
 simp only [gq179.F, grd_bind, cnd_bind, bnd_bind, non_bind]
def gq179 (s_code : List Int) (s_at : Int) (s_seed : Int) : Option (ByteArray × List Int × Int × Int) := gq179.F (fun y0 y1 y2 y3 => some (y0, y1, y2, y3)) s_code s_at s_seed
def gq179.out : (ByteArray × List Int × Int × Int) → CRes := fun a => ⟨encL SV.enc [.one (.str)] (a.1, ()), [encL SC.enc [.slv [1] (.int .u8), .int .i64, .int .i64] (a.2.1, a.2.2.1, a.2.2.2, ())]⟩
def gq179.ps : List PS := [.ptr [some ((.int .u8), false), none, none]]
def gq179.sA : List SA := [.ptr [.slv [] (.int .u8), .int .i64, .int .i64]]
def gq179.fi : FI := FIs gq179.sA (ByteArray × List Int × Int × Int) (fun t => gq179 t.1.1 t.1.2.1 t.1.2.2.1) gq179.out gq179.ps
def gq179.E : Env := ⟨tt, lkF [(112, gq112.fi)], 6, 1, [], []⟩
theorem gq179.hok (hE : EOk Tryz.prog (gq179.E)) : HintOk Tryz.prog gq179.E (bodyOf Tryz.f179) (.a) := HintOk.n1 (Q := True) (by kernel_rfl) trivial
theorem gq179.hE : EOk Tryz.prog (gq179.E) := EOk.of ttOk (⟨gq112.fok, trivial⟩)
theorem gq179.fok : FOk Tryz.prog 179 gq179.fi :=
 fokS (E := gq179.E) (wy := ⟨[[none]], [[some ((.int .u8), false), none, none]], []⟩) (h := (fun gs => .a)) (G := fun t g => gq179.F (fun y0 y1 y2 y3 => g (y0, y1, y2, y3)) t.1.1 t.1.2.1 t.1.2.2.1) (by kernel_rfl) gq179.hE Tryz.func179 (by kernel_rfl) rfl (Nat.le_refl _) (fun t => HintOk.n1 (by kernel_rfl) (gq179.hok gq179.hE)) (fun t g => gq179.F_nat g (fun y0 y1 y2 y3 => some (y0, y1, y2, y3)) _ _ _) (fun t => by kernel_rfl)
def gq180.F {R : Type} (kk : ByteArray → List Int → Int → Int → Option R) (s_code : List Int) (s_at : Int) (s_seed : Int) : Option R :=
 (gq112 s_code s_at s_seed [ByteArray.empty, (⟨#[49]⟩ : ByteArray), (⟨#[50]⟩ : ByteArray), (⟨#[120]⟩ : ByteArray), (⟨#[108, 111, 110, 103, 101, 114, 32, 118, 97, 108, 117, 101]⟩ : ByteArray)]).bind fun r =>
 kk r.1 r.2.1 r.2.2.1 r.2.2.2
theorem gq180.F_nat {R S : Type} (g : R → Option S) (kk : ByteArray → List Int → Int → Int → Option R) (s_code s_at s_seed) : gq180.F (fun y0 y1 y2 y3 => (kk y0 y1 y2 y3).bind g) s_code s_at s_seed = (gq180.F kk s_code s_at s_seed).bind g := by
 simp only [gq180.F, grd_bind, cnd_bind, bnd_bind, non_bind]
def gq180 (s_code : List Int) (s_at : Int) (s_seed : Int) : Option (ByteArray × List Int × Int × Int) := gq180.F (fun y0 y1 y2 y3 => some (y0, y1, y2, y3)) s_code s_at s_seed
def gq180.out : (ByteArray × List Int × Int × Int) → CRes := fun a => ⟨encL SV.enc [.one (.str)] (a.1, ()), [encL SC.enc [.slv [1] (.int .u8), .int .i64, .int .i64] (a.2.1, a.2.2.1, a.2.2.2, ())]⟩
def gq180.ps : List PS := [.ptr [some ((.int .u8), false), none, none]]
def gq180.sA : List SA := [.ptr [.slv [] (.int .u8), .int .i64, .int .i64]]
def gq180.fi : FI := FIs gq180.sA (ByteArray × List Int × Int × Int) (fun t => gq180 t.1.1 t.1.2.1 t.1.2.2.1) gq180.out gq180.ps
def gq180.E : Env := ⟨tt, lkF [(112, gq112.fi)], 6, 1, [], []⟩
theorem gq180.hok (hE : EOk Tryz.prog (gq180.E)) : HintOk Tryz.prog gq180.E (bodyOf Tryz.f180) (.a) := HintOk.n1 (Q := True) (by kernel_rfl) trivial
theorem gq180.hE : EOk Tryz.prog (gq180.E) := EOk.of ttOk (⟨gq112.fok, trivial⟩)
theorem gq180.fok : FOk Tryz.prog 180 gq180.fi :=
 fokS (E := gq180.E) (wy := ⟨[[none]], [[some ((.int .u8), false), none, none]], []⟩) (h := (fun gs => .a)) (G := fun t g => gq180.F (fun y0 y1 y2 y3 => g (y0, y1, y2, y3)) t.1.1 t.1.2.1 t.1.2.2.1) (by kernel_rfl) gq180.hE Tryz.func180 (by kernel_rfl) rfl (Nat.le_refl _) (fun t => HintOk.n1 (by kernel_rfl) (gq180.hok gq180.hE)) (fun t g => gq180.F_nat g (fun y0 y1 y2 y3 => some (y0, y1, y2, y3)) _ _ _) (fun t => by kernel_rfl)
def gq181.F {R : Type} (kk : Bool → List Int → Int → Int → Option R) (s_code : List Int) (s_at : Int) (s_seed : Int) (n_ : Int) : Option R :=
 (gq140 s_code s_at s_seed n_).bind fun r =>
 kk (r.1 == (IntKind.wrap .i64 (n_ - (1 : Int)))) r.2.1 r.2.2.1 r.2.2.2
theorem gq181.F_nat {R S : Type} (g : R → Option S) (kk : Bool → List Int → Int → Int → Option R) (s_code s_at s_seed n_) : gq181.F (fun y0 y1 y2 y3 => (kk y0 y1 y2 y3).bind g) s_code s_at s_seed n_ = (gq181.F kk s_code s_at s_seed n_).bind g := by
 simp only [gq181.F, grd_bind, cnd_bind, bnd_bind, non_bind]
def gq181 (s_code : List Int) (s_at : Int) (s_seed : Int) (n_ : Int) : Option (Bool × List Int × Int × Int) := gq181.F (fun y0 y1 y2 y3 => some (y0, y1, y2, y3)) s_code s_at s_seed n_
def gq181.out : (Bool × List Int × Int × Int) → CRes := fun a => ⟨encL SV.enc [.one (.bool)] (a.1, ()), [encL SC.enc [.slv [1] (.int .u8), .int .i64, .int .i64] (a.2.1, a.2.2.1, a.2.2.2, ()), encL SC.enc [] ()]⟩
def gq181.ps : List PS := [.ptr [some ((.int .u8), false), none, none], .val [none]]
def gq181.sA : List SA := [.ptr [.slv [] (.int .u8), .int .i64, .int .i64], .v (.one (.int .i64))]
def gq181.fi : FI := FIs gq181.sA (Bool × List Int × Int × Int) (fun t => gq181 t.1.1 t.1.2.1 t.1.2.2.1 t.2.1) gq181.out gq181.ps
def gq181.E : Env := ⟨tt, lkF [(140, gq140.fi)], 11, 1, [], []⟩
theorem gq181.hok (hE : EOk Tryz.prog (gq181.E)) : HintOk Tryz.prog gq181.E (bodyOf Tryz.f181) (.a) := HintOk.n1 (Q := True) (by kernel_rfl) trivial
theorem gq181.hE : EOk Tryz.prog (gq181.E) := EOk.of ttOk (⟨gq140.fok, trivial⟩)
theorem gq181.fok : FOk Tryz.prog 181 gq181.fi :=
 fokS (E := gq181.E) (wy := ⟨[[none]], [[some ((.int .u8), false), none, none], []], []⟩) (h := (fun gs => .a)) (G := fun t g => gq181.F (fun y0 y1 y2 y3 => g (y0, y1, y2, y3)) t.1.1 t.1.2.1 t.1.2.2.1 t.2.1) (by kernel_rfl) gq181.hE Tryz.func181 (by kernel_rfl) rfl (Nat.le_refl _) (fun t => HintOk.n1 (by kernel_rfl) (gq181.hok gq181.hE)) (fun t g => gq181.F_nat g (fun y0 y1 y2 y3 => some (y0, y1, y2, y3)) _ _ _ _) (fun t => by kernel_rfl)
def gq163.j1 {R : Type} (kkn : List Int → Int → Int → Int → Int → Int → ByteArray → ByteArray → Int → Int → Int → ByteArray → ByteArray → Option R) (s : List Int) (s1 : Int) (s2 : Int) (i : Int) (i1 : Int) (i2 : Int) (s3 : ByteArray) (s4 : ByteArray) (c : Int) (c1 : Int) (c2 : Int) (c3 : ByteArray) (c4 : ByteArray) : Option R :=
 cond (c == (3 : Int)) (kkn s s1 s2 i i1 i2 s3 s4 c c1 c2 c3 ByteArray.empty) (kkn s s1 s2 i i1 i2 s3 s4 c c1 c2 c3 c4)
theorem gq163.j1_nat {R S : Type} (g : R → Option S) (kkn : List Int → Int → Int → Int → Int → Int → ByteArray → ByteArray → Int → Int → Int → ByteArray → ByteArray → Option R) (s s1 s2 i i1 i2 s3 s4 c c1 c2 c3 c4) : gq163.j1 (fun y0 y1 y2 y3 y4 y5 y6 y7 y8 y9 y10 y11 y12 => (kkn y0 y1 y2 y3 y4 y5 y6 y7 y8 y9 y10 y11 y12).bind g) s s1 s2 i i1 i2 s3 s4 c c1 c2 c3 c4 = (gq163.j1 kkn s s1 s2 i i1 i2 s3 s4 c c1 c2 c3 c4).bind g := by
 simp only [gq163.j1, grd_bind, cnd_bind, bnd_bind, non_bind]
def gq163.F {R : Type} (kk : Int → Int → Int → ByteArray → ByteArray → List Int → Int → Int → Option R) (s_code : List Int) (s_at : Int) (s_seed : Int) : Option R :=
 (gq140 s_code s_at s_seed (5 : Int)).bind fun r =>
 grd (gIx r.1 (List.length [(1 : Int), (1 : Int), (2 : Int), (2 : Int), (3 : Int)])) <|
 (gq140 r.2.1 r.2.2.1 r.2.2.2 (3 : Int)).bind fun r1 =>
 (gq140 r1.2.1 r1.2.2.1 r1.2.2.2 (5 : Int)).bind fun r2 =>
 (gq179 r2.2.1 r2.2.2.1 r2.2.2.2).bind fun r3 =>
 (gq180 r3.2.1 r3.2.2.1 r3.2.2.2).bind fun r4 =>
 gq163.j1 (fun s s1 s2 i i1 i2 s3 s4 c c1 c2 c3 c4 =>
  (gq181 s s1 s2 (4 : Int)).bind fun r5 =>
  cond (r5.1) (
   (gq140 r5.2.1 r5.2.2.1 r5.2.2.2 (2 : Int)).bind fun r6 =>
   (gq140 r6.2.1 r6.2.2.1 r6.2.2.2 (3 : Int)).bind fun r7 =>
   kk (IntKind.wrap .i64 ((4 : Int) + r6.1)) (IntKind.wrap .i64 ((1 : Int) + r7.1)) (0 : Int) ByteArray.empty ByteArray.empty r7.2.1 r7.2.2.1 r7.2.2.2) (kk c c1 c2 c3 c4 r5.2.1 r5.2.2.1 r5.2.2.2)) r4.2.1 r4.2.2.1 r4.2.2.2 (0 : Int) (0 : Int) (0 : Int) ByteArray.empty ByteArray.empty (rdE (.int .i64 : Kd) [(1 : Int), (1 : Int), (2 : Int), (2 : Int), (3 : Int)] (Int.toNat r.1)) (IntKind.wrap .i64 ((1 : Int) + r1.1)) (IntKind.wrap .i64 ((1 : Int) + r2.1)) r3.1 r4.1
theorem gq163.F_nat {R S : Type} (g : R → Option S) (kk : Int → Int → Int → ByteArray → ByteArray → List Int → Int → Int → Option R) (s_code s_at s_seed) : gq163.F (fun y0 y1 y2 y3 y4 y5 y6 y7 => (kk y0 y1 y2 y3 y4 y5 y6 y7).bind g) s_code s_at s_seed = (gq163.F kk s_code s_at s_seed).bind g := by
 simp only [gq163.F, grd_bind, cnd_bind, bnd_bind, non_bind, ← gq163.j1_nat]
def gq163 (s_code : List Int) (s_at : Int) (s_seed : Int) : Option (Int × Int × Int × ByteArray × ByteArray × List Int × Int × Int) := gq163.F (fun y0 y1 y2 y3 y4 y5 y6 y7 => some (y0, y1, y2, y3, y4, y5, y6, y7)) s_code s_at s_seed
def gq163.out : (Int × Int × Int × ByteArray × ByteArray × List Int × Int × Int) → CRes := fun a => ⟨encL SV.enc [.agg [.int .i64, .int .i64, .int .i64, .str, .str]] ((a.1, a.2.1, a.2.2.1, a.2.2.2.1, a.2.2.2.2.1, ()), ()), [encL SC.enc [.slv [1] (.int .u8), .int .i64, .int .i64] (a.2.2.2.2.2.1, a.2.2.2.2.2.2.1, a.2.2.2.2.2.2.2, ())]⟩
def gq163.ps : List PS := [.ptr [some ((.int .u8), false), none, none]]
def gq163.sA : List SA := [.ptr [.slv [] (.int .u8), .int .i64, .int .i64]]
def gq163.fi : FI := FIs gq163.sA (Int × Int × Int × ByteArray × ByteArray × List Int × Int × Int) (fun t => gq163 t.1.1 t.1.2.1 t.1.2.2.1) gq163.out gq163.ps
def gq163.E : Env := ⟨tt, lkF [(140, gq140.fi), (179, gq179.fi), (180, gq180.fi), (181, gq181.fi)], 34, 1, [], []⟩
def gq163.sh1 : SK := ⟨[.v (.one (.bptr 0 0)), .v (.one (.bptr 1 0)), .v (.one (.bptr 2 0))], [.box [.slv [1] (.int .u8), .int .i64, .int .i64], .box [.int .i64, .int .i64, .int .i64, .str, .str], .box [.int .i64, .int .i64, .int .i64, .str, .str]]⟩
def gq163.sh1n : SK := ⟨[.v (.one (.bptr 0 0)), .v (.one (.bptr 1 0)), .v (.one (.bptr 2 0))], [.box [.slv [1] (.int .u8), .int .i64, .int .i64], .box [.int .i64, .int .i64, .int .i64, .str, .str], .box [.int .i64, .int .i64, .int .i64, .str, .str]]⟩
def gq163.ko1 : Ex → List CastAt × List Nat
 | .nrm => ([], [0, 2, 3])
 | .ret => ([], [])
 | .ext i => ([], [])
def gq163.G1 (R : Type) (t : gq163.sh1.T) (K : Ex → Kp → Option R) : Option R := gq163.j1 (fun y0 y1 y2 y3 y4 y5 y6 y7 y8 y9 y10 y11 y12 => K .nrm (SK.enc gq163.sh1n (((), (), (), ()), ((y0, y1, y2, ()), (y3, y4, y5, y6, y7, ()), (y8, y9, y10, y11, y12, ()), ())))) t.2.1.1 t.2.1.2.1 t.2.1.2.2.1 t.2.2.1.1 t.2.2.1.2.1 t.2.2.1.2.2.1 t.2.2.1.2.2.2.1 t.2.2.1.2.2.2.2.1 t.2.2.2.1.1 t.2.2.2.1.2.1 t.2.2.2.1.2.2.1 t.2.2.2.1.2.2.2.1 t.2.2.2.1.2.2.2.2.1
def gq163.S1 : Sum := ⟨([], [0, 2, 3]), sumF gq163.sh1 (gq163.G1), gq163.ko1⟩
theorem gq163.ok1 (hE : EOk Tryz.prog (gq163.E)) : SumOk Tryz.prog gq163.E (cL (cR (cR (bodyOf Tryz.f163)))) (gq163.S1) := by
 have hh : HintOk Tryz.prog gq163.E (cL (cR (cR (bodyOf Tryz.f163)))) (.a) := HintOk.n1 (Q := True) (by kernel_rfl) trivial
 exact sumS (kin := ([], [0, 2, 3])) (kout := gq163.ko1) (sh := gq163.sh1) (F := gq163.G1) (ops_ok (hE.gv _)) (by kernel_rfl) hh (fun R t K => by kernel_rfl)
theorem gq163.hok (hE : EOk Tryz.prog (gq163.E)) : HintOk Tryz.prog gq163.E (bodyOf Tryz.f163) (.n (.a) (.n (.a) (.n (.s (gq163.S1)) (.a)))) := HintOk.n1 (Q := (True) ∧ ((True) ∧ ((SumOk Tryz.prog gq163.E (cL (cR (cR (bodyOf Tryz.f163)))) (gq163.S1)) ∧ (True)))) (by kernel_rfl) ⟨trivial, ⟨trivial, ⟨(gq163.ok1 hE), trivial⟩⟩⟩
theorem gq163.hE : EOk Tryz.prog (gq163.E) := EOk.of ttOk (⟨gq140.fok, ⟨gq179.fok, ⟨gq180.fok, ⟨gq181.fok, trivial⟩⟩⟩⟩)
theorem gq163.fok : FOk Tryz.prog 163 gq163.fi :=
 fokS (E := gq163.E) (wy := ⟨[[none, none, none, none, none]], [[some ((.int .u8), false), none, none]], []⟩) (h := (fun gs => .n (.a) (.n (.a) (.n (.s (gq163.S1)) (.a))))) (G := fun t g => gq163.F (fun y0 y1 y2 y3 y4 y5 y6 y7 => g (y0, y1, y2, y3, y4, y5, y6, y7)) t.1.1 t.1.2.1 t.1.2.2.1) (by kernel_rfl) gq163.hE Tryz.func163 (by kernel_rfl) rfl (Nat.le_refl _) (fun t => HintOk.n1 (by kernel_rfl) (gq163.hok gq163.hE)) (fun t g => gq163.F_nat g (fun y0 y1 y2 y3 y4 y5 y6 y7 => some (y0, y1, y2, y3, y4, y5, y6, y7)) _ _ _) (fun t => by kernel_rfl)
def gq141.F {R : Type} (kk : Int → Int → ByteArray → List Int → Int → Int → Option R) (s_code : List Int) (s_at : Int) (s_seed : Int) : Option R :=
 (gq140 s_code s_at s_seed (4 : Int)).bind fun r =>
 (gq163 r.2.1 r.2.2.1 r.2.2.2).bind fun r1 =>
 (gq162 r1.1 r1.2.1 r1.2.2.1 r1.2.2.2.1 r1.2.2.2.2.1).bind fun r2 =>
 (gq140 r1.2.2.2.2.2.1 r1.2.2.2.2.2.2.1 r1.2.2.2.2.2.2.2 (6 : Int)).bind fun r3 =>
 cond (r3.1 == (0 : Int)) (kk (IntKind.wrap .i64 ((1 : Int) + r.1)) (0 : Int) ByteArray.empty r3.2.1 r3.2.2.1 r3.2.2.2) (
  cond (r3.1 == (1 : Int)) (
   (gq112 r3.2.1 r3.2.2.1 r3.2.2.2 [(⟨#[0, 1, 2]⟩ : ByteArray), (⟨#[0, 1]⟩ : ByteArray), (⟨#[0, 1, 2, 3]⟩ : ByteArray), (⟨#[4]⟩ : ByteArray)]).bind fun r4 =>
   kk (IntKind.wrap .i64 ((1 : Int) + r.1)) (2 : Int) r4.1 r4.2.1 r4.2.2.1 r4.2.2.2) (kk (IntKind.wrap .i64 ((1 : Int) + r.1)) (1 : Int) (strL r2) r3.2.1 r3.2.2.1 r3.2.2.2))
theorem gq141.F_nat {R S : Type} (g : R → Option S) (kk : Int → Int → ByteArray → List Int → Int → Int → Option R) (s_code s_at s_seed) : gq141.F (fun y0 y1 y2 y3 y4 y5 => (kk y0 y1 y2 y3 y4 y5).bind g) s_code s_at s_seed = (gq141.F kk s_code s_at s_seed).bind g := by
 simp only [gq141.F, grd_bind, cnd_bind, bnd_bind, non_bind]
def gq141 (s_code : List Int) (s_at : Int) (s_seed : Int) : Option (Int × Int × ByteArray × List Int × Int × Int) := gq141.F (fun y0 y1 y2 y3 y4 y5 => some (y0, y1, y2, y3, y4, y5)) s_code s_at s_seed
def gq141.out : (Int × Int × ByteArray × List Int × Int × Int) → CRes := fun a => ⟨encL SV.enc [.agg [.int .i64, .int .i64, .str]] ((a.1, a.2.1, a.2.2.1, ()), ()), [encL SC.enc [.slv [1] (.int .u8), .int .i64, .int .i64] (a.2.2.2.1, a.2.2.2.2.1, a.2.2.2.2.2, ())]⟩
def gq141.ps : List PS := [.ptr [some ((.int .u8), false), none, none]]
def gq141.sA : List SA := [.ptr [.slv [] (.int .u8), .int .i64, .int .i64]]
def gq141.fi : FI := FIs gq141.sA (Int × Int × ByteArray × List Int × Int × Int) (fun t => gq141 t.1.1 t.1.2.1 t.1.2.2.1) gq141.out gq141.ps
def gq141.E : Env := ⟨tt, lkF [(112, gq112.fi), (140, gq140.fi), (162, gq162.fi), (163, gq163.fi)], 27, 1, [], []⟩
theorem gq141.hok (hE : EOk Tryz.prog (gq141.E)) : HintOk Tryz.prog gq141.E (bodyOf Tryz.f141) (.a) := HintOk.n1 (Q := True) (by kernel_rfl) trivial
theorem gq141.hE : EOk Tryz.prog (gq141.E) := EOk.of ttOk (⟨gq112.fok, ⟨gq140.fok, ⟨gq162.fok, ⟨gq163.fok, trivial⟩⟩⟩⟩)
theorem gq141.fok : FOk Tryz.prog 141 gq141.fi :=
 fokS (E := gq141.E) (wy := ⟨[[none, none, none]], [[some ((.int .u8), false), none, none]], []⟩) (h := (fun gs => .a)) (G := fun t g => gq141.F (fun y0 y1 y2 y3 y4 y5 => g (y0, y1, y2, y3, y4, y5)) t.1.1 t.1.2.1 t.1.2.2.1) (by kernel_rfl) gq141.hE Tryz.func141 (by kernel_rfl) rfl (Nat.le_refl _) (fun t => HintOk.n1 (by kernel_rfl) (gq141.hok gq141.hE)) (fun t g => gq141.F_nat g (fun y0 y1 y2 y3 y4 y5 => some (y0, y1, y2, y3, y4, y5)) _ _ _) (fun t => by kernel_rfl)
def gq86.l1 {R : Type} (kke0 : List Int → Int → Int → Int → Int → Int → Int → List (El kkb53) → Option R) : Nat → Int → List Int → Int → Int → Int → Int → Int → Int → List (El kkb53) → Option R
 | 0, _, _, _, _, _, _, _, _, _ => none
 | n + 1, i, s, s1, s2, i1, i2, out, out1, l =>
  cond (decide (i > (0 : Int))) (
   (gq141 s s1 s2).bind fun r =>
   grd (gRm (((List.length l) + (List.length [(mx2 (1 : Int) out, (r.2.1, r.2.2.1))])) * 32)) <|
   gq86.l1 kke0 n (IntKind.wrap .i64 (i - (1 : Int))) r.2.2.2.1 r.2.2.2.2.1 r.2.2.2.2.2 i1 i2 (mx2 out (mx2 (1 : Int) out)) out1 (l ++ [(mx2 (1 : Int) out, (r.2.1, r.2.2.1))])) (kke0 s s1 s2 i1 i2 out out1 l)
theorem gq86.l1_nat {R S : Type} (g : R → Option S) (kke0 : List Int → Int → Int → Int → Int → Int → Int → List (El kkb53) → Option R) : ∀ n i s s1 s2 i1 i2 out out1 l, gq86.l1 (fun y0 y1 y2 y3 y4 y5 y6 y7 => (kke0 y0 y1 y2 y3 y4 y5 y6 y7).bind g) n i s s1 s2 i1 i2 out out1 l = (gq86.l1 kke0 n i s s1 s2 i1 i2 out out1 l).bind g := by
 intro n
 induction n with
 | zero => intros; rfl
 | succ n ih => intros; simp only [gq86.l1, grd_bind, cnd_bind, bnd_bind, non_bind, ih]
def gq86.F {R : Type} (kk : Int → Int → List (El kkb53) → List Int → Int → Int → Option R) (s_code : List Int) (s_at : Int) (s_seed : Int) (x_Term : Int) (x_Vote : Int) (x_Log : List (El kkb53)) : Option R :=
 (gq140 s_code s_at s_seed (2 : Int)).bind fun r =>
 (gq140 r.2.1 r.2.2.1 r.2.2.2 (5 : Int)).bind fun r1 =>
 (gq140 r1.2.1 r1.2.2.1 r1.2.2.2 (mn2 (3 : Int) (IntKind.wrap .i64 ((List.length x_Log : Int) + (1 : Int))))).bind fun r2 =>
 grd (gSl (0 : Int) (IntKind.wrap .i64 ((List.length x_Log : Int) - r2.1)) (List.length x_Log)) <|
 grd (gRm (((List.length ([] : List (El kkb53))) + (List.length (sub x_Log (0 : Int) (IntKind.wrap .i64 ((List.length x_Log : Int) - r2.1))))) * 32)) <|
 (gq140 r2.2.1 r2.2.2.1 r2.2.2.2 (3 : Int)).bind fun r3 =>
 gq86.l1 (fun s s1 s2 i i1 out out1 l => kk out out1 l s s1 s2) fuel r3.1 r3.2.1 r3.2.2.1 r3.2.2.2 (0 : Int) (0 : Int) (IntKind.wrap .i64 (x_Term + r.1)) (IntKind.wrap .i64 (r1.1 - (1 : Int))) (([] : List (El kkb53)) ++ (sub x_Log (0 : Int) (IntKind.wrap .i64 ((List.length x_Log : Int) - r2.1))))
theorem gq86.F_nat {R S : Type} (g : R → Option S) (kk : Int → Int → List (El kkb53) → List Int → Int → Int → Option R) (s_code s_at s_seed x_Term x_Vote x_Log) : gq86.F (fun y0 y1 y2 y3 y4 y5 => (kk y0 y1 y2 y3 y4 y5).bind g) s_code s_at s_seed x_Term x_Vote x_Log = (gq86.F kk s_code s_at s_seed x_Term x_Vote x_Log).bind g := by
 simp only [gq86.F, grd_bind, cnd_bind, bnd_bind, non_bind, ← gq86.l1_nat]
def gq86 (s_code : List Int) (s_at : Int) (s_seed : Int) (x_Term : Int) (x_Vote : Int) (x_Log : List (El kkb53)) : Option (Int × Int × List (El kkb53) × List Int × Int × Int) := gq86.F (fun y0 y1 y2 y3 y4 y5 => some (y0, y1, y2, y3, y4, y5)) s_code s_at s_seed x_Term x_Vote x_Log
def gq86.out : (Int × Int × List (El kkb53) × List Int × Int × Int) → CRes := fun a => ⟨encL SV.enc [.agg [.int .i64, .int .i64, .own [] kkb53 true]] ((a.1, a.2.1, a.2.2.1, ()), ()), [encL SC.enc [.slv [1] (.int .u8), .int .i64, .int .i64] (a.2.2.2.1, a.2.2.2.2.1, a.2.2.2.2.2, ()), encL SC.enc [] ()]⟩
def gq86.ps : List PS := [.ptr [some ((.int .u8), false), none, none], .val [none, none, some (kkb53, false)]]
def gq86.sA : List SA := [.ptr [.slv [] (.int .u8), .int .i64, .int .i64], .v (.agg [.int .i64, .int .i64, .slv [] kkb53])]
def gq86.fi : FI := FIs gq86.sA (Int × Int × List (El kkb53) × List Int × Int × Int) (fun t => gq86 t.1.1 t.1.2.1 t.1.2.2.1 t.2.1.1 t.2.1.2.1 t.2.1.2.2.1) gq86.out gq86.ps
def gq86.E : Env := ⟨tt, lkF [(140, gq140.fi), (141, gq141.fi)], 58, 1, [], []⟩
def gq86.sh1 : SK := ⟨[.v (.one (.bptr 0 0)), .v (.one (.bptr 1 0)), .v (.one (.bptr 2 0)), .v (.one (.int .i64))], [.box [.slv [1] (.int .u8), .int .i64, .int .i64], .box [.int .i64, .int .i64, .nil], .box [.int .i64, .int .i64, .slo 3], .arr kkb53 [] true]⟩
def gq86.sh1e0 : SK := ⟨[.v (.one (.bptr 0 0)), .v (.one (.bptr 1 0)), .v (.one (.bptr 2 0))], [.box [.slv [1] (.int .u8), .int .i64, .int .i64], .box [.int .i64, .int .i64, .nil], .box [.int .i64, .int .i64, .slo 3], .arr kkb53 [] true]⟩
def gq86.ko1 : Ex → List CastAt × List Nat
 | .nrm => ([], [])
 | .ret => ([], [])
 | .ext i => cond (Nat.beq i 0) ([], [0, 4, 5]) ([], [])
def gq86.G1 (n : Nat) (R : Type) (t : gq86.sh1.T) (K : Ex → Kp → Option R) : Option R := gq86.l1 (fun y0 y1 y2 y3 y4 y5 y6 y7 => K (.ext 0) (SK.enc gq86.sh1e0 (((), (), (), ()), ((y0, y1, y2, ()), (y3, y4, (), ()), (y5, y6, (), ()), y7, ())))) n t.1.2.2.2.1 t.2.1.1 t.2.1.2.1 t.2.1.2.2.1 t.2.2.1.1 t.2.2.1.2.1 t.2.2.2.1.1 t.2.2.2.1.2.1 t.2.2.2.2.1
def gq86.S1 : Sum := ⟨([], [0, 4, 5, 6]), sumF gq86.sh1 (gq86.G1 fuel), gq86.ko1⟩
theorem gq86.ok1 (hE : EOk Tryz.prog (gq86.E)) : SumOk Tryz.prog gq86.E (cB (cR (cL (cR (cR (bodyOf Tryz.f86)))))) (gq86.S1) := by
 have hh : HintOk Tryz.prog gq86.E (cB (cB (cR (cL (cR (cR (bodyOf Tryz.f86))))))) (.a) := HintOk.n1 (Q := True) (by kernel_rfl) trivial
 have h := loopS (kin := ([], [0, 4, 5, 6])) (kout := gq86.ko1) (sh := gq86.sh1) (F := gq86.G1) (ops_ok (hE.gv _)) (by kernel_rfl) hh (fun _ _ _ => rfl) (fun n R t K => by kernel_rfl) fuel
 exact HintOk.n1 (c := (cB (cR (cL (cR (cR (bodyOf Tryz.f86))))))) (h := .s (gq86.S1)) (P := Tryz.prog) (E := gq86.E) (by kernel_rfl) h
theorem gq86.hok (hE : EOk Tryz.prog (gq86.E)) : HintOk Tryz.prog gq86.E (bodyOf Tryz.f86) (.n (.a) (.n (.a) (.n (.n (.a) (.b (.s (gq86.S1)))) (.a)))) := HintOk.n1 (Q := (True) ∧ ((True) ∧ (((True) ∧ (SumOk Tryz.prog gq86.E (cB (cR (cL (cR (cR (bodyOf Tryz.f86)))))) (gq86.S1))) ∧ (True)))) (by kernel_rfl) ⟨trivial, ⟨trivial, ⟨⟨trivial, (gq86.ok1 hE)⟩, trivial⟩⟩⟩
theorem gq86.hE : EOk Tryz.prog (gq86.E) := EOk.of ttOk (⟨gq140.fok, ⟨gq141.fok, trivial⟩⟩)
theorem gq86.fok : FOk Tryz.prog 86 gq86.fi :=
 fokS (E := gq86.E) (wy := ⟨[[none, none, some (kkb53, true)]], [[some ((.int .u8), false), none, none], []], []⟩) (h := (fun gs => .n (.a) (.n (.a) (.n (.n (.a) (.b (.s (gq86.S1)))) (.a))))) (G := fun t g => gq86.F (fun y0 y1 y2 y3 y4 y5 => g (y0, y1, y2, y3, y4, y5)) t.1.1 t.1.2.1 t.1.2.2.1 t.2.1.1 t.2.1.2.1 t.2.1.2.2.1) (by kernel_rfl) gq86.hE Tryz.func86 (by kernel_rfl) rfl (Nat.le_refl _) (fun t => HintOk.n1 (by kernel_rfl) (gq86.hok gq86.hE)) (fun t g => gq86.F_nat g (fun y0 y1 y2 y3 y4 y5 => some (y0, y1, y2, y3, y4, y5)) _ _ _ _ _ _) (fun t => by kernel_rfl)
def gq39.F {R : Type} (kk : Int → Int → List (El kkb53) → Option R) (code : List Int) (x_Term : Int) (x_Vote : Int) (x_Log : List (El kkb53)) : Option R :=
 (gq63 code).bind fun r =>
 (gq86 r.1 r.2.1 r.2.2 x_Term x_Vote x_Log).bind fun r1 =>
 kk r1.1 r1.2.1 r1.2.2.1
theorem gq39.F_nat {R S : Type} (g : R → Option S) (kk : Int → Int → List (El kkb53) → Option R) (code x_Term x_Vote x_Log) : gq39.F (fun y0 y1 y2 => (kk y0 y1 y2).bind g) code x_Term x_Vote x_Log = (gq39.F kk code x_Term x_Vote x_Log).bind g := by
 simp only [gq39.F, grd_bind, cnd_bind, bnd_bind, non_bind]
def gq39 (code : List Int) (x_Term : Int) (x_Vote : Int) (x_Log : List (El kkb53)) : Option (Int × Int × List (El kkb53)) := gq39.F (fun y0 y1 y2 => some (y0, y1, y2)) code x_Term x_Vote x_Log
def gq39.out : (Int × Int × List (El kkb53)) → CRes := fun a => ⟨encL SV.enc [.agg [.int .i64, .int .i64, .own [] kkb53 true]] ((a.1, a.2.1, a.2.2, ()), ()), [encL SC.enc [] (), encL SC.enc [] ()]⟩
def gq39.ps : List PS := [.val [some ((.int .u8), false)], .val [none, none, some (kkb53, false)]]
def gq39.sA : List SA := [.v (.one (.slv [] (.int .u8))), .v (.agg [.int .i64, .int .i64, .slv [] kkb53])]
def gq39.fi : FI := FIs gq39.sA (Int × Int × List (El kkb53)) (fun t => gq39 t.1 t.2.1.1 t.2.1.2.1 t.2.1.2.2.1) gq39.out gq39.ps
def gq39.E : Env := ⟨tt, lkF [(63, gq63.fi), (86, gq86.fi)], 9, 0, [], []⟩
theorem gq39.hok (hE : EOk Tryz.prog (gq39.E)) : HintOk Tryz.prog gq39.E (bodyOf Tryz.f39) (.a) := HintOk.n1 (Q := True) (by kernel_rfl) trivial
theorem gq39.hE : EOk Tryz.prog (gq39.E) := EOk.of ttOk (⟨gq63.fok, ⟨gq86.fok, trivial⟩⟩)
theorem gq39.fok : FOk Tryz.prog 39 gq39.fi :=
 fokS (E := gq39.E) (wy := ⟨[[none, none, some (kkb53, true)]], [[], []], []⟩) (h := (fun gs => .a)) (G := fun t g => gq39.F (fun y0 y1 y2 => g (y0, y1, y2)) t.1 t.2.1.1 t.2.1.2.1 t.2.1.2.2.1) (by kernel_rfl) gq39.hE Tryz.func39 (by kernel_rfl) rfl (Nat.le_refl _) (fun t => HintOk.n1 (by kernel_rfl) (gq39.hok gq39.hE)) (fun t g => gq39.F_nat g (fun y0 y1 y2 => some (y0, y1, y2)) _ _ _ _) (fun t => by kernel_rfl)
def gq159.l1 {R : Type} (kke0 : List Int → Option R) (kkr : Bool → List Int → Option R) : Nat → ByteArray → Int → List Int → Option R
 | 0, _, _, _ => none
 | n + 1, data, i, out =>
  cond (decide (i < (ByteArray.size data : Int))) (
   grd (gIx i (ByteArray.size data)) <|
   (gq59 (IntKind.wrap .i64 (byteAt data i)) (0 : Int) (6 : Int)).bind fun r =>
   cond (!r) (kkr false ([] : List Int)) (
    cond (decide (i > (0 : Int))) (
     grd (gIx (IntKind.wrap .i64 (i - (1 : Int))) (ByteArray.size data)) <|
     grd (gIx i (ByteArray.size data)) <|
     cond (decide ((byteAt data (IntKind.wrap .i64 (i - (1 : Int)))) ≥ (byteAt data i))) (kkr false ([] : List Int)) (
      grd (gIx i (ByteArray.size data)) <|
      grd (gRm (((List.length out) + (List.length [IntKind.wrap .i64 (byteAt data i)])) * 8)) <|
      gq159.l1 kke0 kkr n data (IntKind.wrap .i64 (i + (1 : Int))) (out ++ [IntKind.wrap .i64 (byteAt data i)]))) (
     grd (gIx i (ByteArray.size data)) <|
     grd (gRm (((List.length out) + (List.length [IntKind.wrap .i64 (byteAt data i)])) * 8)) <|
     gq159.l1 kke0 kkr n data (IntKind.wrap .i64 (i + (1 : Int))) (out ++ [IntKind.wrap .i64 (byteAt data i)])))) (kke0 out)
theorem gq159.l1_nat {R S : Type} (g : R → Option S) (kke0 : List Int → Option R) (kkr : Bool → List Int → Option R) : ∀ n data i out, gq159.l1 (fun y0 => (kke0 y0).bind g) (fun y0 y1 => (kkr y0 y1).bind g) n data i out = (gq159.l1 kke0 kkr n data i out).bind g := by
 intro n
 induction n with
 | zero => intros; rfl
 | succ n ih => intros; simp only [gq159.l1, grd_bind, cnd_bind, bnd_bind, non_bind, ih]
def gq159.F {R : Type} (kk : List Int → Bool → Option R) (data : ByteArray) : Option R :=
 gq159.l1 (fun out => kk out (decide ((List.length out : Int) > (0 : Int)))) (fun b l => kk l b) fuel data (0 : Int) ([] : List Int)
theorem gq159.F_nat {R S : Type} (g : R → Option S) (kk : List Int → Bool → Option R) (data) : gq159.F (fun y0 y1 => (kk y0 y1).bind g) data = (gq159.F kk data).bind g := by
 simp only [gq159.F, grd_bind, cnd_bind, bnd_bind, non_bind, ← gq159.l1_nat]
def gq159 (data : ByteArray) : Option (List Int × Bool) := gq159.F (fun y0 y1 => some (y0, y1)) data
def gq159.out : (List Int × Bool) → CRes := fun a => ⟨encL SV.enc [.one (.own [] (.int .i64) true), .one (.bool)] (a.1, a.2, ()), [encL SC.enc [] ()]⟩
def gq159.ps : List PS := [.val [none]]
def gq159.sA : List SA := [.v (.one (.str))]
def gq159.fi : FI := FIs gq159.sA (List Int × Bool) (fun t => gq159 t.1) gq159.out gq159.ps
def gq159.E : Env := ⟨tt, lkF [(59, gq59.fi)], 45, 0, [], []⟩
def gq159.sh1 : SK := ⟨[.v (.one (.str)), .v (.one (.slo 0)), .v (.one (.int .i64))], [.arr (.int .i64) [] true]⟩
def gq159.sh1e0 : SK := ⟨[.v (.one (.slo 0))], [.arr (.int .i64) [] true]⟩
def gq159.sh1r : SK := ⟨[.v (.one (.slo 0)), .v (.one (.bool))], [.arr (.int .i64) [] true]⟩
def gq159.ko1 : Ex → List CastAt × List Nat
 | .nrm => ([], [])
 | .ret => ([], [2, 3])
 | .ext i => cond (Nat.beq i 0) ([], [4]) ([], [])
def gq159.G1 (n : Nat) (R : Type) (t : gq159.sh1.T) (K : Ex → Kp → Option R) : Option R := gq159.l1 (fun y0 => K (.ext 0) (SK.enc gq159.sh1e0 (((), ()), (y0, ())))) (fun y0 y1 => K .ret (SK.enc gq159.sh1r (((), y0, ()), (y1, ())))) n t.1.1 t.1.2.2.1 t.2.1
def gq159.S1 : Sum := ⟨([], [0, 4, 5]), sumF gq159.sh1 (gq159.G1 fuel), gq159.ko1⟩
theorem gq159.ok1 (hE : EOk Tryz.prog (gq159.E)) : SumOk Tryz.prog gq159.E (cB (cR (cL (cR (cR (bodyOf Tryz.f159)))))) (gq159.S1) := by
 have hh : HintOk Tryz.prog gq159.E (cB (cB (cR (cL (cR (cR (bodyOf Tryz.f159))))))) (.a) := HintOk.n1 (Q := True) (by kernel_rfl) trivial
 have h := loopS (kin := ([], [0, 4, 5])) (kout := gq159.ko1) (sh := gq159.sh1) (F := gq159.G1) (ops_ok (hE.gv _)) (by kernel_rfl) hh (fun _ _ _ => rfl) (fun n R t K => by kernel_rfl) fuel
 exact HintOk.n1 (c := (cB (cR (cL (cR (cR (bodyOf Tryz.f159))))))) (h := .s (gq159.S1)) (P := Tryz.prog) (E := gq159.E) (by kernel_rfl) h
theorem gq159.hok (hE : EOk Tryz.prog (gq159.E)) : HintOk Tryz.prog gq159.E (bodyOf Tryz.f159) (.n (.a) (.n (.a) (.n (.n (.a) (.b (.s (gq159.S1)))) (.a)))) := HintOk.n1 (Q := (True) ∧ ((True) ∧ (((True) ∧ (SumOk Tryz.prog gq159.E (cB (cR (cL (cR (cR (bodyOf Tryz.f159)))))) (gq159.S1))) ∧ (True)))) (by kernel_rfl) ⟨trivial, ⟨trivial, ⟨⟨trivial, (gq159.ok1 hE)⟩, trivial⟩⟩⟩
theorem gq159.hE : EOk Tryz.prog (gq159.E) := EOk.of ttOk (⟨gq59.fok, trivial⟩)
theorem gq159.fok : FOk Tryz.prog 159 gq159.fi :=
 fokS (E := gq159.E) (wy := ⟨[[some ((.int .i64), true)], [none]], [[]], []⟩) (h := (fun gs => .n (.a) (.n (.a) (.n (.n (.a) (.b (.s (gq159.S1)))) (.a))))) (G := fun t g => gq159.F (fun y0 y1 => g (y0, y1)) t.1) (by kernel_rfl) gq159.hE Tryz.func159 (by kernel_rfl) rfl (Nat.le_refl _) (fun t => HintOk.n1 (by kernel_rfl) (gq159.hok gq159.hE)) (fun t g => gq159.F_nat g (fun y0 y1 => some (y0, y1)) _) (fun t => by kernel_rfl)
def gq132.F {R : Type} (kk : Bool → Option R) (e_Term : Int) (e_Kind : Int) (e_Data : ByteArray) : Option R :=
 (gq59 e_Term (1 : Int) (1000000 : Int)).bind fun r =>
 cond (!r) (kk false) (
  cond (e_Kind == (0 : Int)) (kk (sEq e_Data ByteArray.empty)) (
   cond (e_Kind == (1 : Int)) (
    cond (decide ((ByteArray.size e_Data : Int) ≥ (1 : Int))) (kk (decide ((ByteArray.size e_Data : Int) ≤ (100 : Int)))) (kk false)) (
    cond (e_Kind == (2 : Int)) (
     (gq159 e_Data).bind fun r1 =>
     kk r1.2) (kk false))))
theorem gq132.F_nat {R S : Type} (g : R → Option S) (kk : Bool → Option R) (e_Term e_Kind e_Data) : gq132.F (fun y0 => (kk y0).bind g) e_Term e_Kind e_Data = (gq132.F kk e_Term e_Kind e_Data).bind g := by
 simp only [gq132.F, grd_bind, cnd_bind, bnd_bind, non_bind]
def gq132 (e_Term : Int) (e_Kind : Int) (e_Data : ByteArray) : Option Bool := gq132.F (fun y0 => some y0) e_Term e_Kind e_Data
def gq132.out : Bool → CRes := fun a => ⟨encL SV.enc [.one (.bool)] (a, ()), [encL SC.enc [] ()]⟩
def gq132.ps : List PS := [.val [none, none, none]]
def gq132.sA : List SA := [.v (.agg [.int .i64, .int .i64, .str])]
def gq132.fi : FI := FIs gq132.sA (Bool) (fun t => gq132 t.1.1 t.1.2.1 t.1.2.2.1) gq132.out gq132.ps
def gq132.E : Env := ⟨tt, lkF [(59, gq59.fi), (159, gq159.fi)], 37, 0, [], []⟩
theorem gq132.hok (hE : EOk Tryz.prog (gq132.E)) : HintOk Tryz.prog gq132.E (bodyOf Tryz.f132) (.a) := HintOk.n1 (Q := True) (by kernel_rfl) trivial
theorem gq132.hE : EOk Tryz.prog (gq132.E) := EOk.of ttOk (⟨gq59.fok, ⟨gq159.fok, trivial⟩⟩)
theorem gq132.fok : FOk Tryz.prog 132 gq132.fi :=
 fokS (E := gq132.E) (wy := ⟨[[none]], [[]], []⟩) (h := (fun gs => .a)) (G := fun t g => gq132.F (fun y0 => g y0) t.1.1 t.1.2.1 t.1.2.2.1) (by kernel_rfl) gq132.hE Tryz.func132 (by kernel_rfl) rfl (Nat.le_refl _) (fun t => HintOk.n1 (by kernel_rfl) (gq132.hok gq132.hE)) (fun t g => gq132.F_nat g (fun y0 => some y0) _ _ _) (fun t => by kernel_rfl)
def gq79.l1 {R : Type} (kke0 : Option R) (kkr : Bool → Option R) : Nat → Int → Int → Int → List (El kkb53) → Option R
 | 0, _, _, _, _ => none
 | n + 1, i, s, s1, s2 =>
  cond (decide (i < (List.length s2 : Int))) (
   grd (gIx i (List.length s2)) <|
   (gq132 ((rdE kkb53 s2 (Int.toNat i)).1) ((rdE kkb53 s2 (Int.toNat i)).2.1) ((rdE kkb53 s2 (Int.toNat i)).2.2)).bind fun r =>
   cond (!r) (kkr false) (
    grd (gIx i (List.length s2)) <|
    cond (decide ((rdE kkb53 s2 (Int.toNat i)).1 > s)) (kkr false) (
     cond (decide (i > (0 : Int))) (
      grd (gIx (IntKind.wrap .i64 (i - (1 : Int))) (List.length s2)) <|
      grd (gIx i (List.length s2)) <|
      cond (decide ((rdE kkb53 s2 (Int.toNat (IntKind.wrap .i64 (i - (1 : Int))))).1 > (rdE kkb53 s2 (Int.toNat i)).1)) (kkr false) (gq79.l1 kke0 kkr n (IntKind.wrap .i64 (i + (1 : Int))) s s1 s2)) (gq79.l1 kke0 kkr n (IntKind.wrap .i64 (i + (1 : Int))) s s1 s2)))) (kke0)
theorem gq79.l1_nat {R S : Type} (g : R → Option S) (kke0 : Option R) (kkr : Bool → Option R) : ∀ n i s s1 s2, gq79.l1 (kke0.bind g) (fun y0 => (kkr y0).bind g) n i s s1 s2 = (gq79.l1 kke0 kkr n i s s1 s2).bind g := by
 intro n
 induction n with
 | zero => intros; rfl
 | succ n ih => intros; simp only [gq79.l1, grd_bind, cnd_bind, bnd_bind, non_bind, ih]
def gq79.F {R : Type} (kk : Bool → Option R) (s_Term : Int) (s_Vote : Int) (s_Log : List (El kkb53)) : Option R :=
 (gq59 s_Term (0 : Int) (1000000 : Int)).bind fun r =>
 cond (!r) (kk false) (
  (gq59 s_Vote (-1 : Int) (6 : Int)).bind fun r1 =>
  cond (!r1) (kk false) (
   cond (decide ((List.length s_Log : Int) > (60 : Int))) (kk false) (gq79.l1 (kk true) (fun b => kk b) fuel (0 : Int) s_Term s_Vote s_Log)))
theorem gq79.F_nat {R S : Type} (g : R → Option S) (kk : Bool → Option R) (s_Term s_Vote s_Log) : gq79.F (fun y0 => (kk y0).bind g) s_Term s_Vote s_Log = (gq79.F kk s_Term s_Vote s_Log).bind g := by
 simp only [gq79.F, grd_bind, cnd_bind, bnd_bind, non_bind, ← gq79.l1_nat]
def gq79 (s_Term : Int) (s_Vote : Int) (s_Log : List (El kkb53)) : Option Bool := gq79.F (fun y0 => some y0) s_Term s_Vote s_Log
def gq79.out : Bool → CRes := fun a => ⟨encL SV.enc [.one (.bool)] (a, ()), [encL SC.enc [] ()]⟩
def gq79.ps : List PS := [.val [none, none, some (kkb53, false)]]
def gq79.sA : List SA := [.v (.agg [.int .i64, .int .i64, .slv [] kkb53])]
def gq79.fi : FI := FIs gq79.sA (Bool) (fun t => gq79 t.1.1 t.1.2.1 t.1.2.2.1) gq79.out gq79.ps
def gq79.E : Env := ⟨tt, lkF [(59, gq59.fi), (132, gq132.fi)], 65, 0, [], []⟩
def gq79.sh1 : SK := ⟨[.v (.one (.bptr 0 0)), .v (.one (.int .i64))], [.box [.int .i64, .int .i64, .slv [1] kkb53]]⟩
def gq79.sh1e0 : SK := ⟨[], []⟩
def gq79.sh1r : SK := ⟨[.v (.one (.bool))], []⟩
def gq79.ko1 : Ex → List CastAt × List Nat
 | .nrm => ([], [])
 | .ret => ([], [2])
 | .ext i => cond (Nat.beq i 0) ([], []) ([], [])
def gq79.G1 (n : Nat) (R : Type) (t : gq79.sh1.T) (K : Ex → Kp → Option R) : Option R := gq79.l1 (K (.ext 0) (SK.enc gq79.sh1e0 ((), ()))) (fun y0 => K .ret (SK.enc gq79.sh1r ((y0, ()), ()))) n t.1.2.1 t.2.1.1 t.2.1.2.1 t.2.1.2.2.1
def gq79.S1 : Sum := ⟨([], [1, 3]), sumF gq79.sh1 (gq79.G1 fuel), gq79.ko1⟩
theorem gq79.ok1 (hE : EOk Tryz.prog (gq79.E)) : SumOk Tryz.prog gq79.E (cB (cR (cL (cR (cR (bodyOf Tryz.f79)))))) (gq79.S1) := by
 have hh : HintOk Tryz.prog gq79.E (cB (cB (cR (cL (cR (cR (bodyOf Tryz.f79))))))) (.a) := HintOk.n1 (Q := True) (by kernel_rfl) trivial
 have h := loopS (kin := ([], [1, 3])) (kout := gq79.ko1) (sh := gq79.sh1) (F := gq79.G1) (ops_ok (hE.gv _)) (by kernel_rfl) hh (fun _ _ _ => rfl) (fun n R t K => by kernel_rfl) fuel
 exact HintOk.n1 (c := (cB (cR (cL (cR (cR (bodyOf Tryz.f79))))))) (h := .s (gq79.S1)) (P := Tryz.prog) (E := gq79.E) (by kernel_rfl) h
theorem gq79.hok (hE : EOk Tryz.prog (gq79.E)) : HintOk Tryz.prog gq79.E (bodyOf Tryz.f79) (.n (.a) (.n (.a) (.n (.n (.a) (.b (.s (gq79.S1)))) (.a)))) := HintOk.n1 (Q := (True) ∧ ((True) ∧ (((True) ∧ (SumOk Tryz.prog gq79.E (cB (cR (cL (cR (cR (bodyOf Tryz.f79)))))) (gq79.S1))) ∧ (True)))) (by kernel_rfl) ⟨trivial, ⟨trivial, ⟨⟨trivial, (gq79.ok1 hE)⟩, trivial⟩⟩⟩
theorem gq79.hE : EOk Tryz.prog (gq79.E) := EOk.of ttOk (⟨gq59.fok, ⟨gq132.fok, trivial⟩⟩)
theorem gq79.fok : FOk Tryz.prog 79 gq79.fi :=
 fokS (E := gq79.E) (wy := ⟨[[none]], [[]], []⟩) (h := (fun gs => .n (.a) (.n (.a) (.n (.n (.a) (.b (.s (gq79.S1)))) (.a))))) (G := fun t g => gq79.F (fun y0 => g y0) t.1.1 t.1.2.1 t.1.2.2.1) (by kernel_rfl) gq79.hE Tryz.func79 (by kernel_rfl) rfl (Nat.le_refl _) (fun t => HintOk.n1 (by kernel_rfl) (gq79.hok gq79.hE)) (fun t g => gq79.F_nat g (fun y0 => some y0) _ _ _) (fun t => by kernel_rfl)
def gq133.F {R : Type} (kk : List Int → Option R) (n_ : Int) : Option R :=
 grd (gSh (24 : Int)) <|
 grd (gSh (16 : Int)) <|
 grd (gSh (8 : Int)) <|
 kk [IntKind.wrap .u8 (iShr .i64 n_ (24 : Int)), IntKind.wrap .u8 (iShr .i64 n_ (16 : Int)), IntKind.wrap .u8 (iShr .i64 n_ (8 : Int)), IntKind.wrap .u8 n_]
theorem gq133.F_nat {R S : Type} (g : R → Option S) (kk : List Int → Option R) (n_) : gq133.F (fun y0 => (kk y0).bind g) n_ = (gq133.F kk n_).bind g := by
 simp only [gq133.F, grd_bind, cnd_bind, bnd_bind, non_bind]
def gq133 (n_ : Int) : Option (List Int) := gq133.F (fun y0 => some y0) n_
def gq133.out : (List Int) → CRes := fun a => ⟨encL SV.enc [.one (.own [] (.int .u8) true)] (a, ()), [encL SC.enc [] ()]⟩
def gq133.ps : List PS := [.val [none]]
def gq133.sA : List SA := [.v (.one (.int .i64))]
def gq133.fi : FI := FIs gq133.sA (List Int) (fun t => gq133 t.1) gq133.out gq133.ps
def gq133.E : Env := ⟨tt, lkF [], 15, 0, [], []⟩
theorem gq133.hok (hE : EOk Tryz.prog (gq133.E)) : HintOk Tryz.prog gq133.E (bodyOf Tryz.f133) (.a) := HintOk.n1 (Q := True) (by kernel_rfl) trivial
theorem gq133.hE : EOk Tryz.prog (gq133.E) := EOk.of ttOk (trivial)
theorem gq133.fok : FOk Tryz.prog 133 gq133.fi :=
 fokS (E := gq133.E) (wy := ⟨[[some ((.int .u8), true)]], [[]], []⟩) (h := (fun gs => .a)) (G := fun t g => gq133.F (fun y0 => g y0) t.1) (by kernel_rfl) gq133.hE Tryz.func133 (by kernel_rfl) rfl (Nat.le_refl _) (fun t => HintOk.n1 (by kernel_rfl) (gq133.hok gq133.hE)) (fun t g => gq133.F_nat g (fun y0 => some y0) _) (fun t => by kernel_rfl)
def gq134.F {R : Type} (kk : List Int → Option R) (e_Term : Int) (e_Kind : Int) (e_Data : ByteArray) : Option R :=
 (gq133 e_Term).bind fun r =>
 grd (gRm (((List.length r) + (List.length [IntKind.wrap .u8 e_Kind, IntKind.wrap .u8 (ByteArray.size e_Data : Int)])) * 1)) <|
 grd (gRm (((List.length (r ++ [IntKind.wrap .u8 e_Kind, IntKind.wrap .u8 (ByteArray.size e_Data : Int)])) + (List.length (bytesL e_Data))) * 1)) <|
 kk ((r ++ [IntKind.wrap .u8 e_Kind, IntKind.wrap .u8 (ByteArray.size e_Data : Int)]) ++ (bytesL e_Data))
theorem gq134.F_nat {R S : Type} (g : R → Option S) (kk : List Int → Option R) (e_Term e_Kind e_Data) : gq134.F (fun y0 => (kk y0).bind g) e_Term e_Kind e_Data = (gq134.F kk e_Term e_Kind e_Data).bind g := by
 simp only [gq134.F, grd_bind, cnd_bind, bnd_bind, non_bind]
def gq134 (e_Term : Int) (e_Kind : Int) (e_Data : ByteArray) : Option (List Int) := gq134.F (fun y0 => some y0) e_Term e_Kind e_Data
def gq134.out : (List Int) → CRes := fun a => ⟨encL SV.enc [.one (.own [] (.int .u8) true)] (a, ()), [encL SC.enc [] ()]⟩
def gq134.ps : List PS := [.val [none, none, none]]
def gq134.sA : List SA := [.v (.agg [.int .i64, .int .i64, .str])]
def gq134.fi : FI := FIs gq134.sA (List Int) (fun t => gq134 t.1.1 t.1.2.1 t.1.2.2.1) gq134.out gq134.ps
def gq134.E : Env := ⟨tt, lkF [(133, gq133.fi)], 20, 0, [], []⟩
theorem gq134.hok (hE : EOk Tryz.prog (gq134.E)) : HintOk Tryz.prog gq134.E (bodyOf Tryz.f134) (.a) := HintOk.n1 (Q := True) (by kernel_rfl) trivial
theorem gq134.hE : EOk Tryz.prog (gq134.E) := EOk.of ttOk (⟨gq133.fok, trivial⟩)
theorem gq134.fok : FOk Tryz.prog 134 gq134.fi :=
 fokS (E := gq134.E) (wy := ⟨[[some ((.int .u8), true)]], [[]], []⟩) (h := (fun gs => .a)) (G := fun t g => gq134.F (fun y0 => g y0) t.1.1 t.1.2.1 t.1.2.2.1) (by kernel_rfl) gq134.hE Tryz.func134 (by kernel_rfl) rfl (Nat.le_refl _) (fun t => HintOk.n1 (by kernel_rfl) (gq134.hok gq134.hE)) (fun t g => gq134.F_nat g (fun y0 => some y0) _ _ _) (fun t => by kernel_rfl)
end
end Go.Proofs.YtaanadbpnmcbcaaGreatDoorA
