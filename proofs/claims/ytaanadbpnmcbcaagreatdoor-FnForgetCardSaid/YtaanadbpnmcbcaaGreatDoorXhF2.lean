/-
  Functions of the program, and that the small machine's runs are these. No condition.
  Printed by wip/amp/main.py (a session's own program) out of Lean's print of the program; Lean's kernel checks it.
-/
import Derived.Test.YtaanadbpnmcbcaaGreatDoorXhF1
namespace Go.Proofs.YtaanadbpnmcbcaaGreatDoorA
open Go
noncomputable section
set_option linter.unusedVariables false
set_option linter.unusedSimpArgs false
set_option maxRecDepth 100000
def gq62.j1 {R : Type} (kkn : ByteArray → Int → ByteArray → Int → List ByteArray → List ByteArray → Int → Option R) (frame : ByteArray) (n_ : Int) (text : ByteArray) (w : Int) (w1 : List ByteArray) (w2 : List ByteArray) (w3 : Int) : Option R :=
 cond ((ByteArray.size text : Int) == (0 : Int)) (
  (gq111 (IntKind.wrap .i64 (w + (List.length w1 : Int)))).bind fun r =>
  grd (gCat r frame) <|
  kkn (r ++ frame) n_ text w w1 w2 w3) (kkn frame n_ text w w1 w2 w3)
theorem gq62.j1_nat {R S : Type} (g : R → Option S) (kkn : ByteArray → Int → ByteArray → Int → List ByteArray → List ByteArray → Int → Option R) (frame n_ text w w1 w2 w3) : gq62.j1 (fun y0 y1 y2 y3 y4 y5 y6 => (kkn y0 y1 y2 y3 y4 y5 y6).bind g) frame n_ text w w1 w2 w3 = (gq62.j1 kkn frame n_ text w w1 w2 w3).bind g := by
 simp only [gq62.j1, grd_bind, cnd_bind, bnd_bind, non_bind]
def gq62.F {R : Type} (kk : List (El kka9e) → Option R) (d_Room : Int) (d_Files : List (El kFile)) (w_First : Int) (w_Records : List ByteArray) (w_Names : List ByteArray) (w_Torn : Int) (data : ByteArray) : Option R :=
 (gq110 (bytesL data)).bind fun r =>
 (gq95 d_Room d_Files).bind fun r1 =>
 cond ((List.length r1 : Int) == (0 : Int)) (
  (gq99 (1 : Int)).bind fun r2 =>
  (gq111 w_First).bind fun r3 =>
  grd (gCat r3 (strL r)) <|
  kk ([((1 : Int), ((0 : Int), (r2, (ByteArray.empty, (r3 ++ (strL r), [])))))])) (
  grd (gIx (IntKind.wrap .i64 ((List.length r1 : Int) - (1 : Int))) (List.length r1)) <|
  (gq96 d_Room d_Files (rdE (.int .i64 : Kd) r1 (Int.toNat (IntKind.wrap .i64 ((List.length r1 : Int) - (1 : Int)))))).bind fun r4 =>
  gq62.j1 (fun frame n_ text w w1 w2 w3 =>
   cond (decide ((IntKind.wrap .i64 ((ByteArray.size text : Int) + (ByteArray.size frame : Int))) ≤ (160 : Int))) (
    (gq99 n_).bind fun r5 =>
    kk ([((1 : Int), ((0 : Int), (r5, (ByteArray.empty, (frame, [])))))])) (
    (gq99 n_).bind fun r6 =>
    (gq99 (IntKind.wrap .i64 (n_ + (1 : Int)))).bind fun r7 =>
    (gq111 (IntKind.wrap .i64 (w + (List.length w1 : Int)))).bind fun r8 =>
    grd (gCat r8 frame) <|
    kk ([((2 : Int), ((0 : Int), (r6, (ByteArray.empty, (ByteArray.empty, []))))), ((1 : Int), ((0 : Int), (r7, (ByteArray.empty, (r8 ++ frame, [])))))]))) (strL r) (rdE (.int .i64 : Kd) r1 (Int.toNat (IntKind.wrap .i64 ((List.length r1 : Int) - (1 : Int))))) r4 w_First w_Records w_Names w_Torn)
theorem gq62.F_nat {R S : Type} (g : R → Option S) (kk : List (El kka9e) → Option R) (d_Room d_Files w_First w_Records w_Names w_Torn data) : gq62.F (fun y0 => (kk y0).bind g) d_Room d_Files w_First w_Records w_Names w_Torn data = (gq62.F kk d_Room d_Files w_First w_Records w_Names w_Torn data).bind g := by
 simp only [gq62.F, grd_bind, cnd_bind, bnd_bind, non_bind, ← gq62.j1_nat]
def gq62 (d_Room : Int) (d_Files : List (El kFile)) (w_First : Int) (w_Records : List ByteArray) (w_Names : List ByteArray) (w_Torn : Int) (data : ByteArray) : Option (List (El kka9e)) := gq62.F (fun y0 => some y0) d_Room d_Files w_First w_Records w_Names w_Torn data
def gq62.out : (List (El kka9e)) → CRes := fun a => ⟨encL SV.enc [.one (.own [] kka9e true)] (a, ()), [encL SC.enc [] (), encL SC.enc [] (), encL SC.enc [] ()]⟩
def gq62.ps : List PS := [.val [none, some (kFile, false)], .val [none, some (.str, false), some (.str, false), none], .val [none]]
def gq62.sA : List SA := [.v (.agg [.int .i64, .slv [] kFile]), .v (.agg [.int .i64, .slv [] .str, .slv [] .str, .int .i64]), .v (.one (.str))]
def gq62.fi : FI := FIs gq62.sA (List (El kka9e)) (fun t => gq62 t.1.1 t.1.2.1 t.2.1.1 t.2.1.2.1 t.2.1.2.2.1 t.2.1.2.2.2.1 t.2.2.1) gq62.out gq62.ps
def gq62.E : Env := ⟨tt, lkF [(95, gq95.fi), (96, gq96.fi), (99, gq99.fi), (110, gq110.fi), (111, gq111.fi)], 77, 0, [], []⟩
def gq62.sh1 : SK := ⟨[.v (.one (.bptr 0 0)), .v (.one (.str)), .v (.one (.int .i64)), .v (.one (.str))], [.box [.int .i64, .slv [2] .str, .slv [2] .str, .int .i64]]⟩
def gq62.sh1n : SK := ⟨[.v (.one (.bptr 0 0)), .v (.one (.str)), .v (.one (.int .i64)), .v (.one (.str))], [.box [.int .i64, .slv [2] .str, .slv [2] .str, .int .i64]]⟩
def gq62.ko1 : Ex → List CastAt × List Nat
 | .nrm => ([], [4, 7, 9, 10])
 | .ret => ([], [])
 | .ext i => ([], [])
def gq62.G1 (R : Type) (t : gq62.sh1.T) (K : Ex → Kp → Option R) : Option R := gq62.j1 (fun y0 y1 y2 y3 y4 y5 y6 => K .nrm (SK.enc gq62.sh1n (((), y0, y1, y2, ()), ((y3, y4, y5, y6, ()), ())))) t.1.2.1 t.1.2.2.1 t.1.2.2.2.1 t.2.1.1 t.2.1.2.1 t.2.1.2.2.1 t.2.1.2.2.2.1
def gq62.S1 : Sum := ⟨([], [4, 7, 9, 10]), sumF gq62.sh1 (gq62.G1), gq62.ko1⟩
theorem gq62.ok1 (hE : EOk Tryz.prog (gq62.E)) : SumOk Tryz.prog gq62.E (cL (cR (cR (cR (cR (cR (cR (bodyOf Tryz.f62)))))))) (gq62.S1) := by
 have hh : HintOk Tryz.prog gq62.E (cL (cR (cR (cR (cR (cR (cR (bodyOf Tryz.f62)))))))) (.a) := HintOk.n1 (Q := True) (by kernel_rfl) trivial
 exact sumS (kin := ([], [4, 7, 9, 10])) (kout := gq62.ko1) (sh := gq62.sh1) (F := gq62.G1) (ops_ok (hE.gv _)) (by kernel_rfl) hh (fun R t K => by kernel_rfl)
theorem gq62.hok (hE : EOk Tryz.prog (gq62.E)) : HintOk Tryz.prog gq62.E (bodyOf Tryz.f62) (.n (.a) (.n (.a) (.n (.a) (.n (.a) (.n (.a) (.n (.a) (.n (.s (gq62.S1)) (.a)))))))) := HintOk.n1 (Q := (True) ∧ ((True) ∧ ((True) ∧ ((True) ∧ ((True) ∧ ((True) ∧ ((SumOk Tryz.prog gq62.E (cL (cR (cR (cR (cR (cR (cR (bodyOf Tryz.f62)))))))) (gq62.S1)) ∧ (True)))))))) (by kernel_rfl) ⟨trivial, ⟨trivial, ⟨trivial, ⟨trivial, ⟨trivial, ⟨trivial, ⟨(gq62.ok1 hE), trivial⟩⟩⟩⟩⟩⟩⟩
theorem gq62.hE : EOk Tryz.prog (gq62.E) := EOk.of ttOk (⟨gq95.fok, ⟨gq96.fok, ⟨gq99.fok, ⟨gq110.fok, ⟨gq111.fok, trivial⟩⟩⟩⟩⟩)
theorem gq62.fok : FOk Tryz.prog 62 gq62.fi :=
 fokS (E := gq62.E) (wy := ⟨[[some (kka9e, true)]], [[], [], []], []⟩) (h := (fun gs => .n (.a) (.n (.a) (.n (.a) (.n (.a) (.n (.a) (.n (.a) (.n (.s (gq62.S1)) (.a))))))))) (G := fun t g => gq62.F (fun y0 => g y0) t.1.1 t.1.2.1 t.2.1.1 t.2.1.2.1 t.2.1.2.2.1 t.2.1.2.2.2.1 t.2.2.1) (by kernel_rfl) gq62.hE Tryz.func62 (by kernel_rfl) rfl (Nat.le_refl _) (fun t => HintOk.n1 (by kernel_rfl) (gq62.hok gq62.hE)) (fun t g => gq62.F_nat g (fun y0 => some y0) _ _ _ _ _ _ _) (fun t => by kernel_rfl)
def gq19.F {R : Type} (kk : Int → List (El kFile) → Int → Option R) (d_Room : Int) (d_Files : List (El kFile)) (data : ByteArray) : Option R :=
 cond (decide ((ByteArray.size data : Int) > (65536 : Int))) (kk (0 : Int) [] (2 : Int)) (
  (gq60 d_Room d_Files data).bind fun r =>
  cond (r.2.2.2.2 != (0 : Int)) (kk (0 : Int) [] r.2.2.2.2) (
   (gq62 d_Room d_Files r.1 r.2.1 r.2.2.1 r.2.2.2.1 data).bind fun r1 =>
   (gq61 d_Room d_Files r1).bind fun r2 =>
   cond (r2.2.2 != (0 : Int)) (kk (0 : Int) [] r2.2.2) (
    (gq50 r2.1 r2.2.1).bind fun r3 =>
    kk r3.1 r3.2 (0 : Int))))
theorem gq19.F_nat {R S : Type} (g : R → Option S) (kk : Int → List (El kFile) → Int → Option R) (d_Room d_Files data) : gq19.F (fun y0 y1 y2 => (kk y0 y1 y2).bind g) d_Room d_Files data = (gq19.F kk d_Room d_Files data).bind g := by
 simp only [gq19.F, grd_bind, cnd_bind, bnd_bind, non_bind]
def gq19 (d_Room : Int) (d_Files : List (El kFile)) (data : ByteArray) : Option (Int × List (El kFile) × Int) := gq19.F (fun y0 y1 y2 => some (y0, y1, y2)) d_Room d_Files data
def gq19.out : (Int × List (El kFile) × Int) → CRes := fun a => ⟨encL SV.enc [.agg [.int .i64, .own [] kFile true], .one (.int .i64)] ((a.1, a.2.1, ()), a.2.2, ()), [encL SC.enc [] (), encL SC.enc [] ()]⟩
def gq19.ps : List PS := [.val [none, some (kFile, false)], .val [none]]
def gq19.sA : List SA := [.v (.agg [.int .i64, .slv [] kFile]), .v (.one (.str))]
def gq19.fi : FI := FIs gq19.sA (Int × List (El kFile) × Int) (fun t => gq19 t.1.1 t.1.2.1 t.2.1) gq19.out gq19.ps
def gq19.E : Env := ⟨tt, lkF [(50, gq50.fi), (60, gq60.fi), (61, gq61.fi), (62, gq62.fi)], 38, 0, [], []⟩
theorem gq19.hok (hE : EOk Tryz.prog (gq19.E)) : HintOk Tryz.prog gq19.E (bodyOf Tryz.f19) (.a) := HintOk.n1 (Q := True) (by kernel_rfl) trivial
theorem gq19.hE : EOk Tryz.prog (gq19.E) := EOk.of ttOk (⟨gq50.fok, ⟨gq60.fok, ⟨gq61.fok, ⟨gq62.fok, trivial⟩⟩⟩⟩)
theorem gq19.fok : FOk Tryz.prog 19 gq19.fi :=
 fokS (E := gq19.E) (wy := ⟨[[none, some (kFile, true)], [none]], [[], []], []⟩) (h := (fun gs => .a)) (G := fun t g => gq19.F (fun y0 y1 y2 => g (y0, y1, y2)) t.1.1 t.1.2.1 t.2.1) (by kernel_rfl) gq19.hE Tryz.func19 (by kernel_rfl) rfl (Nat.le_refl _) (fun t => HintOk.n1 (by kernel_rfl) (gq19.hok gq19.hE)) (fun t g => gq19.F_nat g (fun y0 y1 y2 => some (y0, y1, y2)) _ _ _) (fun t => by kernel_rfl)
def gq63.F {R : Type} (kk : List Int → Int → Int → Option R) (code : List Int) : Option R :=
 grd (gNz (1000 : Int)) <|
 kk code (0 : Int) (Int.tmod (List.length code : Int) (1000 : Int))
theorem gq63.F_nat {R S : Type} (g : R → Option S) (kk : List Int → Int → Int → Option R) (code) : gq63.F (fun y0 y1 y2 => (kk y0 y1 y2).bind g) code = (gq63.F kk code).bind g := by
 simp only [gq63.F, grd_bind, cnd_bind, bnd_bind, non_bind]
def gq63 (code : List Int) : Option (List Int × Int × Int) := gq63.F (fun y0 y1 y2 => some (y0, y1, y2)) code
def gq63.out : (List Int × Int × Int) → CRes := fun a => ⟨encL SV.enc [.pbx [.slv [1] (.int .u8), .int .i64, .int .i64]] ((a.1, a.2.1, a.2.2, ()), ()), [encL SC.enc [] ()]⟩
def gq63.ps : List PS := [.val [some ((.int .u8), false)]]
def gq63.sA : List SA := [.v (.one (.slv [] (.int .u8)))]
def gq63.fi : FI := FIs gq63.sA (List Int × Int × Int) (fun t => gq63 t.1) gq63.out gq63.ps
def gq63.E : Env := ⟨tt, lkF [], 9, 0, [], []⟩
theorem gq63.hok (hE : EOk Tryz.prog (gq63.E)) : HintOk Tryz.prog gq63.E (bodyOf Tryz.f63) (.a) := HintOk.n1 (Q := True) (by kernel_rfl) trivial
theorem gq63.hE : EOk Tryz.prog (gq63.E) := EOk.of ttOk (trivial)
theorem gq63.fok : FOk Tryz.prog 63 gq63.fi :=
 fokS (E := gq63.E) (wy := ⟨[[some ((.int .u8), false), none, none]], [[]], []⟩) (h := (fun gs => .a)) (G := fun t g => gq63.F (fun y0 y1 y2 => g (y0, y1, y2)) t.1) (by kernel_rfl) gq63.hE Tryz.func63 (by kernel_rfl) rfl (Nat.le_refl _) (fun t => HintOk.n1 (by kernel_rfl) (gq63.hok gq63.hE)) (fun t g => gq63.F_nat g (fun y0 y1 y2 => some (y0, y1, y2)) _) (fun t => by kernel_rfl)
def gq161.F {R : Type} (kk : Int → List Int → Int → Int → Option R) (s_code : List Int) (s_at : Int) (s_seed : Int) : Option R :=
 cond (decide ((IntKind.wrap .i64 (s_at + (1 : Int))) ≤ (List.length s_code : Int))) (
  grd (gIx (IntKind.wrap .i64 ((IntKind.wrap .i64 (s_at + (1 : Int))) - (1 : Int))) (List.length s_code)) <|
  grd (gNz (2147483648 : Int)) <|
  grd (gIx (IntKind.wrap .i64 ((IntKind.wrap .i64 (s_at + (1 : Int))) - (1 : Int))) (List.length s_code)) <|
  kk (IntKind.wrap .i64 (rdE (.int .u8 : Kd) s_code (Int.toNat (IntKind.wrap .i64 ((IntKind.wrap .i64 (s_at + (1 : Int))) - (1 : Int)))))) s_code (IntKind.wrap .i64 (s_at + (1 : Int))) (Int.tmod (IntKind.wrap .i64 ((IntKind.wrap .i64 ((IntKind.wrap .i64 (s_seed * (31 : Int))) + (IntKind.wrap .i64 (rdE (.int .u8 : Kd) s_code (Int.toNat (IntKind.wrap .i64 ((IntKind.wrap .i64 (s_at + (1 : Int))) - (1 : Int)))))))) + (7 : Int))) (2147483648 : Int))) (
  cond (decide ((IntKind.wrap .i64 (s_at + (1 : Int))) > (3000 : Int))) (kk (0 : Int) s_code (IntKind.wrap .i64 (s_at + (1 : Int))) s_seed) (
   grd (gNz (2147483648 : Int)) <|
   grd (gNz (65536 : Int)) <|
   grd (gNz (256 : Int)) <|
   kk (Int.tmod (IntKind.wrap .i64 (Int.tdiv (Int.tmod (IntKind.wrap .i64 ((IntKind.wrap .i64 (s_seed * (1103515245 : Int))) + (12345 : Int))) (2147483648 : Int)) (65536 : Int))) (256 : Int)) s_code (IntKind.wrap .i64 (s_at + (1 : Int))) (Int.tmod (IntKind.wrap .i64 ((IntKind.wrap .i64 (s_seed * (1103515245 : Int))) + (12345 : Int))) (2147483648 : Int))))
theorem gq161.F_nat {R S : Type} (g : R → Option S) (kk : Int → List Int → Int → Int → Option R) (s_code s_at s_seed) : gq161.F (fun y0 y1 y2 y3 => (kk y0 y1 y2 y3).bind g) s_code s_at s_seed = (gq161.F kk s_code s_at s_seed).bind g := by
 simp only [gq161.F, grd_bind, cnd_bind, bnd_bind, non_bind]
def gq161 (s_code : List Int) (s_at : Int) (s_seed : Int) : Option (Int × List Int × Int × Int) := gq161.F (fun y0 y1 y2 y3 => some (y0, y1, y2, y3)) s_code s_at s_seed
def gq161.out : (Int × List Int × Int × Int) → CRes := fun a => ⟨encL SV.enc [.one (.int .i64)] (a.1, ()), [encL SC.enc [.slv [1] (.int .u8), .int .i64, .int .i64] (a.2.1, a.2.2.1, a.2.2.2, ())]⟩
def gq161.ps : List PS := [.ptr [some ((.int .u8), false), none, none]]
def gq161.sA : List SA := [.ptr [.slv [] (.int .u8), .int .i64, .int .i64]]
def gq161.fi : FI := FIs gq161.sA (Int × List Int × Int × Int) (fun t => gq161 t.1.1 t.1.2.1 t.1.2.2.1) gq161.out gq161.ps
def gq161.E : Env := ⟨tt, lkF [], 76, 1, [], []⟩
theorem gq161.hok (hE : EOk Tryz.prog (gq161.E)) : HintOk Tryz.prog gq161.E (bodyOf Tryz.f161) (.a) := HintOk.n1 (Q := True) (by kernel_rfl) trivial
theorem gq161.hE : EOk Tryz.prog (gq161.E) := EOk.of ttOk (trivial)
theorem gq161.fok : FOk Tryz.prog 161 gq161.fi :=
 fokS (E := gq161.E) (wy := ⟨[[none]], [[some ((.int .u8), false), none, none]], []⟩) (h := (fun gs => .a)) (G := fun t g => gq161.F (fun y0 y1 y2 y3 => g (y0, y1, y2, y3)) t.1.1 t.1.2.1 t.1.2.2.1) (by kernel_rfl) gq161.hE Tryz.func161 (by kernel_rfl) rfl (Nat.le_refl _) (fun t => HintOk.n1 (by kernel_rfl) (gq161.hok gq161.hE)) (fun t g => gq161.F_nat g (fun y0 y1 y2 y3 => some (y0, y1, y2, y3)) _ _ _) (fun t => by kernel_rfl)
def gq140.F {R : Type} (kk : Int → List Int → Int → Int → Option R) (s_code : List Int) (s_at : Int) (s_seed : Int) (n_ : Int) : Option R :=
 cond (decide (n_ ≤ (1 : Int))) (kk (0 : Int) s_code s_at s_seed) (
  cond (decide (n_ ≤ (256 : Int))) (
   (gq161 s_code s_at s_seed).bind fun r =>
   grd (gNz n_) <|
   kk (Int.tmod r.1 n_) r.2.1 r.2.2.1 r.2.2.2) (
   (gq161 s_code s_at s_seed).bind fun r1 =>
   (gq161 r1.2.1 r1.2.2.1 r1.2.2.2).bind fun r2 =>
   (gq161 r2.2.1 r2.2.2.1 r2.2.2.2).bind fun r3 =>
   grd (gNz n_) <|
   kk (Int.tmod (IntKind.wrap .i64 ((IntKind.wrap .i64 ((IntKind.wrap .i64 (r1.1 * (65536 : Int))) + (IntKind.wrap .i64 (r2.1 * (256 : Int))))) + r3.1)) n_) r3.2.1 r3.2.2.1 r3.2.2.2))
theorem gq140.F_nat {R S : Type} (g : R → Option S) (kk : Int → List Int → Int → Int → Option R) (s_code s_at s_seed n_) : gq140.F (fun y0 y1 y2 y3 => (kk y0 y1 y2 y3).bind g) s_code s_at s_seed n_ = (gq140.F kk s_code s_at s_seed n_).bind g := by
 simp only [gq140.F, grd_bind, cnd_bind, bnd_bind, non_bind]
def gq140 (s_code : List Int) (s_at : Int) (s_seed : Int) (n_ : Int) : Option (Int × List Int × Int × Int) := gq140.F (fun y0 y1 y2 y3 => some (y0, y1, y2, y3)) s_code s_at s_seed n_
def gq140.out : (Int × List Int × Int × Int) → CRes := fun a => ⟨encL SV.enc [.one (.int .i64)] (a.1, ()), [encL SC.enc [.slv [1] (.int .u8), .int .i64, .int .i64] (a.2.1, a.2.2.1, a.2.2.2, ()), encL SC.enc [] ()]⟩
def gq140.ps : List PS := [.ptr [some ((.int .u8), false), none, none], .val [none]]
def gq140.sA : List SA := [.ptr [.slv [] (.int .u8), .int .i64, .int .i64], .v (.one (.int .i64))]
def gq140.fi : FI := FIs gq140.sA (Int × List Int × Int × Int) (fun t => gq140 t.1.1 t.1.2.1 t.1.2.2.1 t.2.1) gq140.out gq140.ps
def gq140.E : Env := ⟨tt, lkF [(161, gq161.fi)], 31, 1, [], []⟩
theorem gq140.hok (hE : EOk Tryz.prog (gq140.E)) : HintOk Tryz.prog gq140.E (bodyOf Tryz.f140) (.a) := HintOk.n1 (Q := True) (by kernel_rfl) trivial
theorem gq140.hE : EOk Tryz.prog (gq140.E) := EOk.of ttOk (⟨gq161.fok, trivial⟩)
theorem gq140.fok : FOk Tryz.prog 140 gq140.fi :=
 fokS (E := gq140.E) (wy := ⟨[[none]], [[some ((.int .u8), false), none, none], []], []⟩) (h := (fun gs => .a)) (G := fun t g => gq140.F (fun y0 y1 y2 y3 => g (y0, y1, y2, y3)) t.1.1 t.1.2.1 t.1.2.2.1 t.2.1) (by kernel_rfl) gq140.hE Tryz.func140 (by kernel_rfl) rfl (Nat.le_refl _) (fun t => HintOk.n1 (by kernel_rfl) (gq140.hok gq140.hE)) (fun t g => gq140.F_nat g (fun y0 y1 y2 y3 => some (y0, y1, y2, y3)) _ _ _ _) (fun t => by kernel_rfl)
def gq112.F {R : Type} (kk : ByteArray → List Int → Int → Int → Option R) (s_code : List Int) (s_at : Int) (s_seed : Int) (list : List ByteArray) : Option R :=
 cond ((List.length list : Int) == (0 : Int)) (kk ByteArray.empty s_code s_at s_seed) (
  (gq140 s_code s_at s_seed (List.length list : Int)).bind fun r =>
  grd (gIx r.1 (List.length list)) <|
  kk (rdE (.str : Kd) list (Int.toNat r.1)) r.2.1 r.2.2.1 r.2.2.2)
theorem gq112.F_nat {R S : Type} (g : R → Option S) (kk : ByteArray → List Int → Int → Int → Option R) (s_code s_at s_seed list) : gq112.F (fun y0 y1 y2 y3 => (kk y0 y1 y2 y3).bind g) s_code s_at s_seed list = (gq112.F kk s_code s_at s_seed list).bind g := by
 simp only [gq112.F, grd_bind, cnd_bind, bnd_bind, non_bind]
def gq112 (s_code : List Int) (s_at : Int) (s_seed : Int) (list : List ByteArray) : Option (ByteArray × List Int × Int × Int) := gq112.F (fun y0 y1 y2 y3 => some (y0, y1, y2, y3)) s_code s_at s_seed list
def gq112.out : (ByteArray × List Int × Int × Int) → CRes := fun a => ⟨encL SV.enc [.one (.str)] (a.1, ()), [encL SC.enc [.slv [1] (.int .u8), .int .i64, .int .i64] (a.2.1, a.2.2.1, a.2.2.2, ()), encL SC.enc [] ()]⟩
def gq112.ps : List PS := [.ptr [some ((.int .u8), false), none, none], .val [some (.str, false)]]
def gq112.sA : List SA := [.ptr [.slv [] (.int .u8), .int .i64, .int .i64], .v (.one (.slv [] .str))]
def gq112.fi : FI := FIs gq112.sA (ByteArray × List Int × Int × Int) (fun t => gq112 t.1.1 t.1.2.1 t.1.2.2.1 t.2.1) gq112.out gq112.ps
def gq112.E : Env := ⟨tt, lkF [(140, gq140.fi)], 15, 1, [], []⟩
theorem gq112.hok (hE : EOk Tryz.prog (gq112.E)) : HintOk Tryz.prog gq112.E (bodyOf Tryz.f112) (.a) := HintOk.n1 (Q := True) (by kernel_rfl) trivial
theorem gq112.hE : EOk Tryz.prog (gq112.E) := EOk.of ttOk (⟨gq140.fok, trivial⟩)
theorem gq112.fok : FOk Tryz.prog 112 gq112.fi :=
 fokS (E := gq112.E) (wy := ⟨[[none]], [[some ((.int .u8), false), none, none], []], []⟩) (h := (fun gs => .a)) (G := fun t g => gq112.F (fun y0 y1 y2 y3 => g (y0, y1, y2, y3)) t.1.1 t.1.2.1 t.1.2.2.1 t.2.1) (by kernel_rfl) gq112.hE Tryz.func112 (by kernel_rfl) rfl (Nat.le_refl _) (fun t => HintOk.n1 (by kernel_rfl) (gq112.hok gq112.hE)) (fun t g => gq112.F_nat g (fun y0 y1 y2 y3 => some (y0, y1, y2, y3)) _ _ _ _) (fun t => by kernel_rfl)
def gq64.F {R : Type} (kk : ByteArray → List Int → Int → Int → Option R) (s_code : List Int) (s_at : Int) (s_seed : Int) : Option R :=
 grd (gMk (100 : Int) (100 : Int) 1) <|
 (gq112 s_code s_at s_seed [(⟨#[114]⟩ : ByteArray), (⟨#[114, 101, 99, 111, 114, 100]⟩ : ByteArray), (⟨#[97, 32, 108, 111, 110, 103, 101, 114, 32, 114, 101, 99, 111, 114, 100]⟩ : ByteArray), strL (List.replicate (Int.toNat (100 : Int)) (0 : Int)), (⟨#[120, 49]⟩ : ByteArray)]).bind fun r =>
 kk r.1 r.2.1 r.2.2.1 r.2.2.2
theorem gq64.F_nat {R S : Type} (g : R → Option S) (kk : ByteArray → List Int → Int → Int → Option R) (s_code s_at s_seed) : gq64.F (fun y0 y1 y2 y3 => (kk y0 y1 y2 y3).bind g) s_code s_at s_seed = (gq64.F kk s_code s_at s_seed).bind g := by
 simp only [gq64.F, grd_bind, cnd_bind, bnd_bind, non_bind]
def gq64 (s_code : List Int) (s_at : Int) (s_seed : Int) : Option (ByteArray × List Int × Int × Int) := gq64.F (fun y0 y1 y2 y3 => some (y0, y1, y2, y3)) s_code s_at s_seed
def gq64.out : (ByteArray × List Int × Int × Int) → CRes := fun a => ⟨encL SV.enc [.one (.str)] (a.1, ()), [encL SC.enc [.slv [1] (.int .u8), .int .i64, .int .i64] (a.2.1, a.2.2.1, a.2.2.2, ())]⟩
def gq64.ps : List PS := [.ptr [some ((.int .u8), false), none, none]]
def gq64.sA : List SA := [.ptr [.slv [] (.int .u8), .int .i64, .int .i64]]
def gq64.fi : FI := FIs gq64.sA (ByteArray × List Int × Int × Int) (fun t => gq64 t.1.1 t.1.2.1 t.1.2.2.1) gq64.out gq64.ps
def gq64.E : Env := ⟨tt, lkF [(112, gq112.fi)], 8, 1, [], []⟩
theorem gq64.hok (hE : EOk Tryz.prog (gq64.E)) : HintOk Tryz.prog gq64.E (bodyOf Tryz.f64) (.a) := HintOk.n1 (Q := True) (by kernel_rfl) trivial
theorem gq64.hE : EOk Tryz.prog (gq64.E) := EOk.of ttOk (⟨gq112.fok, trivial⟩)
theorem gq64.fok : FOk Tryz.prog 64 gq64.fi :=
 fokS (E := gq64.E) (wy := ⟨[[none]], [[some ((.int .u8), false), none, none]], []⟩) (h := (fun gs => .a)) (G := fun t g => gq64.F (fun y0 y1 y2 y3 => g (y0, y1, y2, y3)) t.1.1 t.1.2.1 t.1.2.2.1) (by kernel_rfl) gq64.hE Tryz.func64 (by kernel_rfl) rfl (Nat.le_refl _) (fun t => HintOk.n1 (by kernel_rfl) (gq64.hok gq64.hE)) (fun t g => gq64.F_nat g (fun y0 y1 y2 y3 => some (y0, y1, y2, y3)) _ _ _) (fun t => by kernel_rfl)
def gq20.F {R : Type} (kk : ByteArray → Option R) (code : List Int) : Option R :=
 (gq63 code).bind fun r =>
 (gq64 r.1 r.2.1 r.2.2).bind fun r1 =>
 kk r1.1
theorem gq20.F_nat {R S : Type} (g : R → Option S) (kk : ByteArray → Option R) (code) : gq20.F (fun y0 => (kk y0).bind g) code = (gq20.F kk code).bind g := by
 simp only [gq20.F, grd_bind, cnd_bind, bnd_bind, non_bind]
def gq20 (code : List Int) : Option ByteArray := gq20.F (fun y0 => some y0) code
def gq20.out : ByteArray → CRes := fun a => ⟨encL SV.enc [.one (.str)] (a, ()), [encL SC.enc [] ()]⟩
def gq20.ps : List PS := [.val [some ((.int .u8), false)]]
def gq20.sA : List SA := [.v (.one (.slv [] (.int .u8)))]
def gq20.fi : FI := FIs gq20.sA (ByteArray) (fun t => gq20 t.1) gq20.out gq20.ps
def gq20.E : Env := ⟨tt, lkF [(63, gq63.fi), (64, gq64.fi)], 6, 0, [], []⟩
theorem gq20.hok (hE : EOk Tryz.prog (gq20.E)) : HintOk Tryz.prog gq20.E (bodyOf Tryz.f20) (.a) := HintOk.n1 (Q := True) (by kernel_rfl) trivial
theorem gq20.hE : EOk Tryz.prog (gq20.E) := EOk.of ttOk (⟨gq63.fok, ⟨gq64.fok, trivial⟩⟩)
theorem gq20.fok : FOk Tryz.prog 20 gq20.fi :=
 fokS (E := gq20.E) (wy := ⟨[[none]], [[]], []⟩) (h := (fun gs => .a)) (G := fun t g => gq20.F (fun y0 => g y0) t.1) (by kernel_rfl) gq20.hE Tryz.func20 (by kernel_rfl) rfl (Nat.le_refl _) (fun t => HintOk.n1 (by kernel_rfl) (gq20.hok gq20.hE)) (fun t g => gq20.F_nat g (fun y0 => some y0) _) (fun t => by kernel_rfl)
def gq22.l1 {R : Type} (kke0 : Option R) (kkr : Bool → Option R) : Nat → Int → Int → List (El kFile) → Int → List (El kFile) → Option R
 | 0, _, _, _, _, _ => none
 | n + 1, i, a, a1, b, b1 =>
  cond (decide (i < (List.length a1 : Int))) (
   grd (gIx i (List.length a1)) <|
   grd (gIx i (List.length b1)) <|
   cond (!((sEq (rdE kFile a1 (Int.toNat i)).1 (rdE kFile b1 (Int.toNat i)).1) && ((sEq (rdE kFile a1 (Int.toNat i)).2.1 (rdE kFile b1 (Int.toNat i)).2.1) && ((rdE kFile a1 (Int.toNat i)).2.2 == (rdE kFile b1 (Int.toNat i)).2.2)))) (kkr false) (gq22.l1 kke0 kkr n (IntKind.wrap .i64 (i + (1 : Int))) a a1 b b1)) (kke0)
theorem gq22.l1_nat {R S : Type} (g : R → Option S) (kke0 : Option R) (kkr : Bool → Option R) : ∀ n i a a1 b b1, gq22.l1 (kke0.bind g) (fun y0 => (kkr y0).bind g) n i a a1 b b1 = (gq22.l1 kke0 kkr n i a a1 b b1).bind g := by
 intro n
 induction n with
 | zero => intros; rfl
 | succ n ih => intros; simp only [gq22.l1, grd_bind, cnd_bind, bnd_bind, non_bind, ih]
def gq22.F {R : Type} (kk : Bool → Option R) (a_Room : Int) (a_Files : List (El kFile)) (b_Room : Int) (b_Files : List (El kFile)) : Option R :=
 cond (a_Room != b_Room) (kk false) (
  cond ((List.length a_Files : Int) != (List.length b_Files : Int)) (kk false) (gq22.l1 (kk true) (fun b => kk b) fuel (0 : Int) a_Room a_Files b_Room b_Files))
theorem gq22.F_nat {R S : Type} (g : R → Option S) (kk : Bool → Option R) (a_Room a_Files b_Room b_Files) : gq22.F (fun y0 => (kk y0).bind g) a_Room a_Files b_Room b_Files = (gq22.F kk a_Room a_Files b_Room b_Files).bind g := by
 simp only [gq22.F, grd_bind, cnd_bind, bnd_bind, non_bind, ← gq22.l1_nat]
def gq22 (a_Room : Int) (a_Files : List (El kFile)) (b_Room : Int) (b_Files : List (El kFile)) : Option Bool := gq22.F (fun y0 => some y0) a_Room a_Files b_Room b_Files
def gq22.out : Bool → CRes := fun a => ⟨encL SV.enc [.one (.bool)] (a, ()), [encL SC.enc [] (), encL SC.enc [] ()]⟩
def gq22.ps : List PS := [.val [none, some (kFile, false)], .val [none, some (kFile, false)]]
def gq22.sA : List SA := [.v (.agg [.int .i64, .slv [] kFile]), .v (.agg [.int .i64, .slv [] kFile])]
def gq22.fi : FI := FIs gq22.sA (Bool) (fun t => gq22 t.1.1 t.1.2.1 t.2.1.1 t.2.1.2.1) gq22.out gq22.ps
def gq22.E : Env := ⟨tt, lkF [], 38, 0, [], []⟩
def gq22.sh1 : SK := ⟨[.v (.one (.bptr 0 0)), .v (.one (.bptr 1 0)), .v (.one (.int .i64))], [.box [.int .i64, .slv [1] kFile], .box [.int .i64, .slv [2] kFile]]⟩
def gq22.sh1e0 : SK := ⟨[], []⟩
def gq22.sh1r : SK := ⟨[.v (.one (.bool))], []⟩
def gq22.ko1 : Ex → List CastAt × List Nat
 | .nrm => ([], [])
 | .ret => ([], [4])
 | .ext i => cond (Nat.beq i 0) ([], []) ([], [])
def gq22.G1 (n : Nat) (R : Type) (t : gq22.sh1.T) (K : Ex → Kp → Option R) : Option R := gq22.l1 (K (.ext 0) (SK.enc gq22.sh1e0 ((), ()))) (fun y0 => K .ret (SK.enc gq22.sh1r ((y0, ()), ()))) n t.1.2.2.1 t.2.1.1 t.2.1.2.1 t.2.2.1.1 t.2.2.1.2.1
def gq22.S1 : Sum := ⟨([], [2, 3, 5]), sumF gq22.sh1 (gq22.G1 fuel), gq22.ko1⟩
theorem gq22.ok1 (hE : EOk Tryz.prog (gq22.E)) : SumOk Tryz.prog gq22.E (cB (cR (cL (cR (cR (bodyOf Tryz.f22)))))) (gq22.S1) := by
 have hh : HintOk Tryz.prog gq22.E (cB (cB (cR (cL (cR (cR (bodyOf Tryz.f22))))))) (.a) := HintOk.n1 (Q := True) (by kernel_rfl) trivial
 have h := loopS (kin := ([], [2, 3, 5])) (kout := gq22.ko1) (sh := gq22.sh1) (F := gq22.G1) (ops_ok (hE.gv _)) (by kernel_rfl) hh (fun _ _ _ => rfl) (fun n R t K => by kernel_rfl) fuel
 exact HintOk.n1 (c := (cB (cR (cL (cR (cR (bodyOf Tryz.f22))))))) (h := .s (gq22.S1)) (P := Tryz.prog) (E := gq22.E) (by kernel_rfl) h
theorem gq22.hok (hE : EOk Tryz.prog (gq22.E)) : HintOk Tryz.prog gq22.E (bodyOf Tryz.f22) (.n (.a) (.n (.a) (.n (.n (.a) (.b (.s (gq22.S1)))) (.a)))) := HintOk.n1 (Q := (True) ∧ ((True) ∧ (((True) ∧ (SumOk Tryz.prog gq22.E (cB (cR (cL (cR (cR (bodyOf Tryz.f22)))))) (gq22.S1))) ∧ (True)))) (by kernel_rfl) ⟨trivial, ⟨trivial, ⟨⟨trivial, (gq22.ok1 hE)⟩, trivial⟩⟩⟩
theorem gq22.hE : EOk Tryz.prog (gq22.E) := EOk.of ttOk (trivial)
theorem gq22.fok : FOk Tryz.prog 22 gq22.fi :=
 fokS (E := gq22.E) (wy := ⟨[[none]], [[], []], []⟩) (h := (fun gs => .n (.a) (.n (.a) (.n (.n (.a) (.b (.s (gq22.S1)))) (.a))))) (G := fun t g => gq22.F (fun y0 => g y0) t.1.1 t.1.2.1 t.2.1.1 t.2.1.2.1) (by kernel_rfl) gq22.hE Tryz.func22 (by kernel_rfl) rfl (Nat.le_refl _) (fun t => HintOk.n1 (by kernel_rfl) (gq22.hok gq22.hE)) (fun t g => gq22.F_nat g (fun y0 => some y0) _ _ _ _) (fun t => by kernel_rfl)
def gq68.F {R : Type} (kk : ByteArray → Option R) (n_ : Int) : Option R :=
 grd (gNz (10 : Int)) <|
 grd (gNz (10 : Int)) <|
 grd (gCat (⟨#[115]⟩ : ByteArray) (strL [IntKind.wrap .u8 (IntKind.wrap .i64 ((48 : Int) + (IntKind.wrap .i64 (Int.tdiv n_ (10 : Int))))), IntKind.wrap .u8 (IntKind.wrap .i64 ((48 : Int) + (Int.tmod n_ (10 : Int))))])) <|
 kk ((⟨#[115]⟩ : ByteArray) ++ (strL [IntKind.wrap .u8 (IntKind.wrap .i64 ((48 : Int) + (IntKind.wrap .i64 (Int.tdiv n_ (10 : Int))))), IntKind.wrap .u8 (IntKind.wrap .i64 ((48 : Int) + (Int.tmod n_ (10 : Int))))]))
theorem gq68.F_nat {R S : Type} (g : R → Option S) (kk : ByteArray → Option R) (n_) : gq68.F (fun y0 => (kk y0).bind g) n_ = (gq68.F kk n_).bind g := by
 simp only [gq68.F, grd_bind, cnd_bind, bnd_bind, non_bind]
def gq68 (n_ : Int) : Option ByteArray := gq68.F (fun y0 => some y0) n_
def gq68.out : ByteArray → CRes := fun a => ⟨encL SV.enc [.one (.str)] (a, ()), [encL SC.enc [] ()]⟩
def gq68.ps : List PS := [.val [none]]
def gq68.sA : List SA := [.v (.one (.int .i64))]
def gq68.fi : FI := FIs gq68.sA (ByteArray) (fun t => gq68 t.1) gq68.out gq68.ps
def gq68.E : Env := ⟨tt, lkF [], 14, 0, [], []⟩
theorem gq68.hok (hE : EOk Tryz.prog (gq68.E)) : HintOk Tryz.prog gq68.E (bodyOf Tryz.f68) (.a) := HintOk.n1 (Q := True) (by kernel_rfl) trivial
theorem gq68.hE : EOk Tryz.prog (gq68.E) := EOk.of ttOk (trivial)
theorem gq68.fok : FOk Tryz.prog 68 gq68.fi :=
 fokS (E := gq68.E) (wy := ⟨[[none]], [[]], []⟩) (h := (fun gs => .a)) (G := fun t g => gq68.F (fun y0 => g y0) t.1) (by kernel_rfl) gq68.hE Tryz.func68 (by kernel_rfl) rfl (Nat.le_refl _) (fun t => HintOk.n1 (by kernel_rfl) (gq68.hok gq68.hE)) (fun t g => gq68.F_nat g (fun y0 => some y0) _) (fun t => by kernel_rfl)
def gq23.F {R : Type} (kk : ByteArray → Int → Option R) (n_ : Int) : Option R :=
 (gq67 n_ (1 : Int) (99 : Int)).bind fun r =>
 cond (!r) (kk ByteArray.empty (4 : Int)) (
  (gq68 n_).bind fun r1 =>
  kk r1 (0 : Int))
theorem gq23.F_nat {R S : Type} (g : R → Option S) (kk : ByteArray → Int → Option R) (n_) : gq23.F (fun y0 y1 => (kk y0 y1).bind g) n_ = (gq23.F kk n_).bind g := by
 simp only [gq23.F, grd_bind, cnd_bind, bnd_bind, non_bind]
def gq23 (n_ : Int) : Option (ByteArray × Int) := gq23.F (fun y0 y1 => some (y0, y1)) n_
def gq23.out : (ByteArray × Int) → CRes := fun a => ⟨encL SV.enc [.one (.str), .one (.int .i64)] (a.1, a.2, ()), [encL SC.enc [] ()]⟩
def gq23.ps : List PS := [.val [none]]
def gq23.sA : List SA := [.v (.one (.int .i64))]
def gq23.fi : FI := FIs gq23.sA (ByteArray × Int) (fun t => gq23 t.1) gq23.out gq23.ps
def gq23.E : Env := ⟨tt, lkF [(67, gq67.fi), (68, gq68.fi)], 9, 0, [], []⟩
theorem gq23.hok (hE : EOk Tryz.prog (gq23.E)) : HintOk Tryz.prog gq23.E (bodyOf Tryz.f23) (.a) := HintOk.n1 (Q := True) (by kernel_rfl) trivial
theorem gq23.hE : EOk Tryz.prog (gq23.E) := EOk.of ttOk (⟨gq67.fok, ⟨gq68.fok, trivial⟩⟩)
theorem gq23.fok : FOk Tryz.prog 23 gq23.fi :=
 fokS (E := gq23.E) (wy := ⟨[[none], [none]], [[]], []⟩) (h := (fun gs => .a)) (G := fun t g => gq23.F (fun y0 y1 => g (y0, y1)) t.1) (by kernel_rfl) gq23.hE Tryz.func23 (by kernel_rfl) rfl (Nat.le_refl _) (fun t => HintOk.n1 (by kernel_rfl) (gq23.hok gq23.hE)) (fun t g => gq23.F_nat g (fun y0 y1 => some (y0, y1)) _) (fun t => by kernel_rfl)
def gq24.l1 {R : Type} (kke0 : Option R) (kkr : Bool → Option R) : Nat → List ByteArray → List ByteArray → Int → Option R
 | 0, _, _, _ => none
 | n + 1, a, b, i =>
  cond (decide (i < (List.length a : Int))) (
   grd (gIx i (List.length a)) <|
   grd (gIx i (List.length b)) <|
   cond (!(sEq (rdE (.str : Kd) a (Int.toNat i)) (rdE (.str : Kd) b (Int.toNat i)))) (kkr false) (gq24.l1 kke0 kkr n a b (IntKind.wrap .i64 (i + (1 : Int))))) (kke0)
theorem gq24.l1_nat {R S : Type} (g : R → Option S) (kke0 : Option R) (kkr : Bool → Option R) : ∀ n a b i, gq24.l1 (kke0.bind g) (fun y0 => (kkr y0).bind g) n a b i = (gq24.l1 kke0 kkr n a b i).bind g := by
 intro n
 induction n with
 | zero => intros; rfl
 | succ n ih => intros; simp only [gq24.l1, grd_bind, cnd_bind, bnd_bind, non_bind, ih]
def gq24.F {R : Type} (kk : Bool → Option R) (a : List ByteArray) (b : List ByteArray) : Option R :=
 cond ((List.length a : Int) != (List.length b : Int)) (kk false) (gq24.l1 (kk true) (fun b1 => kk b1) fuel a b (0 : Int))
theorem gq24.F_nat {R S : Type} (g : R → Option S) (kk : Bool → Option R) (a b) : gq24.F (fun y0 => (kk y0).bind g) a b = (gq24.F kk a b).bind g := by
 simp only [gq24.F, grd_bind, cnd_bind, bnd_bind, non_bind, ← gq24.l1_nat]
def gq24 (a : List ByteArray) (b : List ByteArray) : Option Bool := gq24.F (fun y0 => some y0) a b
def gq24.out : Bool → CRes := fun a => ⟨encL SV.enc [.one (.bool)] (a, ()), [encL SC.enc [] (), encL SC.enc [] ()]⟩
def gq24.ps : List PS := [.val [some (.str, false)], .val [some (.str, false)]]
def gq24.sA : List SA := [.v (.one (.slv [] .str)), .v (.one (.slv [] .str))]
def gq24.fi : FI := FIs gq24.sA (Bool) (fun t => gq24 t.1 t.2.1) gq24.out gq24.ps
def gq24.E : Env := ⟨tt, lkF [], 26, 0, [], []⟩
def gq24.sh1 : SK := ⟨[.v (.one (.slv [1] .str)), .v (.one (.slv [2] .str)), .v (.one (.int .i64))], []⟩
def gq24.sh1e0 : SK := ⟨[], []⟩
def gq24.sh1r : SK := ⟨[.v (.one (.bool))], []⟩
def gq24.ko1 : Ex → List CastAt × List Nat
 | .nrm => ([], [])
 | .ret => ([], [4])
 | .ext i => cond (Nat.beq i 0) ([], []) ([], [])
def gq24.G1 (n : Nat) (R : Type) (t : gq24.sh1.T) (K : Ex → Kp → Option R) : Option R := gq24.l1 (K (.ext 0) (SK.enc gq24.sh1e0 ((), ()))) (fun y0 => K .ret (SK.enc gq24.sh1r ((y0, ()), ()))) n t.1.1 t.1.2.1 t.1.2.2.1
def gq24.S1 : Sum := ⟨([], [0, 1, 5]), sumF gq24.sh1 (gq24.G1 fuel), gq24.ko1⟩
theorem gq24.ok1 (hE : EOk Tryz.prog (gq24.E)) : SumOk Tryz.prog gq24.E (cB (cR (cL (cR (cR (bodyOf Tryz.f24)))))) (gq24.S1) := by
 have hh : HintOk Tryz.prog gq24.E (cB (cB (cR (cL (cR (cR (bodyOf Tryz.f24))))))) (.a) := HintOk.n1 (Q := True) (by kernel_rfl) trivial
 have h := loopS (kin := ([], [0, 1, 5])) (kout := gq24.ko1) (sh := gq24.sh1) (F := gq24.G1) (ops_ok (hE.gv _)) (by kernel_rfl) hh (fun _ _ _ => rfl) (fun n R t K => by kernel_rfl) fuel
 exact HintOk.n1 (c := (cB (cR (cL (cR (cR (bodyOf Tryz.f24))))))) (h := .s (gq24.S1)) (P := Tryz.prog) (E := gq24.E) (by kernel_rfl) h
theorem gq24.hok (hE : EOk Tryz.prog (gq24.E)) : HintOk Tryz.prog gq24.E (bodyOf Tryz.f24) (.n (.a) (.n (.a) (.n (.n (.a) (.b (.s (gq24.S1)))) (.a)))) := HintOk.n1 (Q := (True) ∧ ((True) ∧ (((True) ∧ (SumOk Tryz.prog gq24.E (cB (cR (cL (cR (cR (bodyOf Tryz.f24)))))) (gq24.S1))) ∧ (True)))) (by kernel_rfl) ⟨trivial, ⟨trivial, ⟨⟨trivial, (gq24.ok1 hE)⟩, trivial⟩⟩⟩
theorem gq24.hE : EOk Tryz.prog (gq24.E) := EOk.of ttOk (trivial)
theorem gq24.fok : FOk Tryz.prog 24 gq24.fi :=
 fokS (E := gq24.E) (wy := ⟨[[none]], [[], []], []⟩) (h := (fun gs => .n (.a) (.n (.a) (.n (.n (.a) (.b (.s (gq24.S1)))) (.a))))) (G := fun t g => gq24.F (fun y0 => g y0) t.1 t.2.1) (by kernel_rfl) gq24.hE Tryz.func24 (by kernel_rfl) rfl (Nat.le_refl _) (fun t => HintOk.n1 (by kernel_rfl) (gq24.hok gq24.hE)) (fun t g => gq24.F_nat g (fun y0 => some y0) _ _) (fun t => by kernel_rfl)
def gq4.l1 {R : Type} (kke0 : List Int → Int → List (El kFile) → Option R) (kkr : Bool → Option R) : Nat → List Int → List Int → Int → Int → Int → List (El kFile) → Option R
 | 0, _, _, _, _, _, _ => none
 | n + 1, code, more, n_, i, d, l =>
  cond (decide (i < n_)) (
   grd (gRm (((List.length [IntKind.wrap .u8 i]) + (List.length code)) * 1)) <|
   (gq20 ([IntKind.wrap .u8 i] ++ code)).bind fun r =>
   (gq19 d l r).bind fun r1 =>
   cond (r1.2.2 != (0 : Int)) (kkr true) (gq4.l1 kke0 kkr n code more n_ (IntKind.wrap .i64 (i + (1 : Int))) r1.1 r1.2.1)) (kke0 more d l)
theorem gq4.l1_nat {R S : Type} (g : R → Option S) (kke0 : List Int → Int → List (El kFile) → Option R) (kkr : Bool → Option R) : ∀ n code more n_ i d l, gq4.l1 (fun y0 y1 y2 => (kke0 y0 y1 y2).bind g) (fun y0 => (kkr y0).bind g) n code more n_ i d l = (gq4.l1 kke0 kkr n code more n_ i d l).bind g := by
 intro n
 induction n with
 | zero => intros; rfl
 | succ n ih => intros; simp only [gq4.l1, grd_bind, cnd_bind, bnd_bind, non_bind, ih]
def gq4.F {R : Type} (kk : Bool → Option R) (code : List Int) (more : List Int) : Option R :=
 cond (decide ((List.length code : Int) > (1048576 : Int))) (kk true) (
  cond (decide ((List.length more : Int) > (1048576 : Int))) (kk true) (
   (gq17 (3000 : Int)).bind fun r =>
   (l_at more (0 : Int) (12 : Int)).bind fun r1 =>
   gq4.l1 (fun more1 d l =>
    (l_at more1 (1 : Int) (14 : Int)).bind fun r2 =>
    (gq21 d l).bind fun r3 =>
    (gq13 d l r2).bind fun r4 =>
    (gq11 d l r2).bind fun r5 =>
    (gq21 r4.1 r4.2.1).bind fun r6 =>
    cond (r3.2.2.2.2 != (0 : Int)) (kk false) (
     cond (r4.2.2 != (0 : Int)) (kk false) (
      cond (r6.2.2.2.2 != (0 : Int)) (kk false) (
       (gq22 r4.1 r4.2.1 r5.1 r5.2.1).bind fun r7 =>
       cond (!r7) (kk false) (
        cond (decide (r6.1 > (mx2 (0 : Int) r2))) (kk false) (
         cond ((IntKind.wrap .i64 (r6.1 + (List.length r6.2.1 : Int))) != (List.length r3.2.1 : Int)) (kk false) (
          (gq23 (List.length r3.2.2.1 : Int)).bind fun r8 =>
          grd (gSl r6.1 (List.length r3.2.1 : Int) (List.length r3.2.1)) <|
          (gq24 r6.2.1 (sub r3.2.1 r6.1 (List.length r3.2.1 : Int))).bind fun r9 =>
          cond (r9) (
           cond (r8.2 == (0 : Int)) (
            grd (gIx (IntKind.wrap .i64 ((List.length r3.2.2.1 : Int) - (1 : Int))) (List.length r3.2.2.1)) <|
            kk (sEq r8.1 (rdE (.str : Kd) r3.2.2.1 (Int.toNat (IntKind.wrap .i64 ((List.length r3.2.2.1 : Int) - (1 : Int))))))) (kk false)) (kk false)))))))) (fun b => kk b) fuel code more (IntKind.wrap .i64 ((1 : Int) + r1)) (0 : Int) r.1 r.2.1))
theorem gq4.F_nat {R S : Type} (g : R → Option S) (kk : Bool → Option R) (code more) : gq4.F (fun y0 => (kk y0).bind g) code more = (gq4.F kk code more).bind g := by
 simp only [gq4.F, grd_bind, cnd_bind, bnd_bind, non_bind, ← gq4.l1_nat]
def gq4 (code : List Int) (more : List Int) : Option Bool := gq4.F (fun y0 => some y0) code more
def gq4.out : Bool → CRes := fun a => ⟨encL SV.enc [.one (.bool)] (a, ()), [encL SC.enc [] (), encL SC.enc [] ()]⟩
def gq4.ps : List PS := [.val [some ((.int .u8), false)], .val [some ((.int .u8), false)]]
def gq4.sA : List SA := [.v (.one (.slv [] (.int .u8))), .v (.one (.slv [] (.int .u8)))]
def gq4.fi : FI := FIs gq4.sA (Bool) (fun t => gq4 t.1 t.2.1) gq4.out gq4.ps
def gq4.E : Env := ⟨tt, lkF [(11, gq11.fi), (13, gq13.fi), (17, gq17.fi), (18, l_at.fi), (19, gq19.fi), (20, gq20.fi), (21, gq21.fi), (22, gq22.fi), (23, gq23.fi), (24, gq24.fi)], 146, 0, [], []⟩
def gq4.sh1 : SK := ⟨[.v (.one (.slv [1] (.int .u8))), .v (.one (.slv [2] (.int .u8))), .v (.one (.bptr 0 0)), .v (.one (.int .i64)), .v (.one (.int .i64))], [.box [.int .i64, .slo 1], .arr kFile [] true]⟩
def gq4.sh1e0 : SK := ⟨[.v (.one (.slv [2] (.int .u8))), .v (.one (.bptr 0 0))], [.box [.int .i64, .slo 1], .arr kFile [] true]⟩
def gq4.sh1r : SK := ⟨[.v (.one (.bool))], []⟩
def gq4.ko1 : Ex → List CastAt × List Nat
 | .nrm => ([], [])
 | .ret => ([], [4])
 | .ext i => cond (Nat.beq i 0) ([], [1, 5]) ([], [])
def gq4.G1 (n : Nat) (R : Type) (t : gq4.sh1.T) (K : Ex → Kp → Option R) : Option R := gq4.l1 (fun y0 y1 y2 => K (.ext 0) (SK.enc gq4.sh1e0 ((y0, (), ()), ((y1, (), ()), y2, ())))) (fun y0 => K .ret (SK.enc gq4.sh1r ((y0, ()), ()))) n t.1.1 t.1.2.1 t.1.2.2.2.1 t.1.2.2.2.2.1 t.2.1.1 t.2.2.1
def gq4.S1 : Sum := ⟨([], [0, 1, 5, 7, 8]), sumF gq4.sh1 (gq4.G1 fuel), gq4.ko1⟩
theorem gq4.ok1 (hE : EOk Tryz.prog (gq4.E)) : SumOk Tryz.prog gq4.E (cB (cR (cL (cR (cR (cR (cR (bodyOf Tryz.f4)))))))) (gq4.S1) := by
 have hh : HintOk Tryz.prog gq4.E (cB (cB (cR (cL (cR (cR (cR (cR (bodyOf Tryz.f4))))))))) (.a) := HintOk.n1 (Q := True) (by kernel_rfl) trivial
 have h := loopS (kin := ([], [0, 1, 5, 7, 8])) (kout := gq4.ko1) (sh := gq4.sh1) (F := gq4.G1) (ops_ok (hE.gv _)) (by kernel_rfl) hh (fun _ _ _ => rfl) (fun n R t K => by kernel_rfl) fuel
 exact HintOk.n1 (c := (cB (cR (cL (cR (cR (cR (cR (bodyOf Tryz.f4))))))))) (h := .s (gq4.S1)) (P := Tryz.prog) (E := gq4.E) (by kernel_rfl) h
theorem gq4.hok (hE : EOk Tryz.prog (gq4.E)) : HintOk Tryz.prog gq4.E (bodyOf Tryz.f4) (.n (.a) (.n (.a) (.n (.a) (.n (.a) (.n (.n (.a) (.b (.s (gq4.S1)))) (.a)))))) := HintOk.n1 (Q := (True) ∧ ((True) ∧ ((True) ∧ ((True) ∧ (((True) ∧ (SumOk Tryz.prog gq4.E (cB (cR (cL (cR (cR (cR (cR (bodyOf Tryz.f4)))))))) (gq4.S1))) ∧ (True)))))) (by kernel_rfl) ⟨trivial, ⟨trivial, ⟨trivial, ⟨trivial, ⟨⟨trivial, (gq4.ok1 hE)⟩, trivial⟩⟩⟩⟩⟩
theorem gq4.hE : EOk Tryz.prog (gq4.E) := EOk.of ttOk (⟨gq11.fok, ⟨gq13.fok, ⟨gq17.fok, ⟨l_at.fok, ⟨gq19.fok, ⟨gq20.fok, ⟨gq21.fok, ⟨gq22.fok, ⟨gq23.fok, ⟨gq24.fok, trivial⟩⟩⟩⟩⟩⟩⟩⟩⟩⟩)
theorem gq4.fok : FOk Tryz.prog 4 gq4.fi :=
 fokS (E := gq4.E) (wy := ⟨[[none]], [[], []], []⟩) (h := (fun gs => .n (.a) (.n (.a) (.n (.a) (.n (.a) (.n (.n (.a) (.b (.s (gq4.S1)))) (.a))))))) (G := fun t g => gq4.F (fun y0 => g y0) t.1 t.2.1) (by kernel_rfl) gq4.hE Tryz.func4 (by kernel_rfl) rfl (Nat.le_refl _) (fun t => HintOk.n1 (by kernel_rfl) (gq4.hok gq4.hE)) (fun t g => gq4.F_nat g (fun y0 => some y0) _ _) (fun t => by kernel_rfl)
end
end Go.Proofs.YtaanadbpnmcbcaaGreatDoorA
