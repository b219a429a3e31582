/-
  Functions of the program, and that the small machine's runs are these. No condition.
  Printed by wip/amp/main.py (a session's own program) out of Lean's print of the program; Lean's kernel checks it.
-/
import Derived.Test.YtaanadbpnmcbcaaGreatDoorXmF1
namespace Go.Proofs.YtaanadbpnmcbcaaGreatDoorA
open Go
noncomputable section
set_option linter.unusedVariables false
set_option linter.unusedSimpArgs false
set_option maxRecDepth 100000
variable {R S : Type} (g : R → Option S)
def gq60.F {R : Type} (kk : Int → List ByteArray → List ByteArray → Int → Int → Option R) (w94 : Int) (w93 : List (El u4)) (data : ByteArray) : Option R :=
 cond (decide ((ByteArray.size data : Int) > (65536 : Int))) (kk (0 : Int) [] [] (0 : Int) (2 : Int)) (
  (gq73 w94 w93).bind fun r =>
  cond (!r) (kk (0 : Int) [] [] (0 : Int) (1 : Int)) (
   (gq59 (ByteArray.size data : Int) (1 : Int) (110 : Int)).bind fun r1 =>
   cond (!r1) (kk (0 : Int) [] [] (0 : Int) (4 : Int)) (
    (gq94 w94 w93).bind fun r2 =>
    (gq95 w94 w93).bind fun r3 =>
    cond (r2.2.2.2.2 != (0 : Int)) (kk r2.1 r2.2.1 r2.2.2.1 r2.2.2.2.1 r2.2.2.2.2) (
     cond (decide (r2.2.2.2.1 > (0 : Int))) (kk r2.1 r2.2.1 r2.2.2.1 r2.2.2.2.1 (16 : Int)) (
      cond (decide ((List.length r2.2.1 : Int) ≥ (60 : Int))) (kk r2.1 r2.2.1 r2.2.2.1 r2.2.2.2.1 (6 : Int)) (
       cond (decide ((List.length r3 : Int) > (0 : Int))) (
        grd (gIx (IntKind.wrap .i64 ((List.length r3 : Int) - (1 : Int))) (List.length r3)) <|
        cond ((rdE (.int .i64 : Kd) r3 (Int.toNat (IntKind.wrap .i64 ((List.length r3 : Int) - (1 : Int))))) == (99 : Int)) (kk r2.1 r2.2.1 r2.2.2.1 r2.2.2.2.1 (6 : Int)) (kk r2.1 r2.2.1 r2.2.2.1 r2.2.2.2.1 (0 : Int))) (kk r2.1 r2.2.1 r2.2.2.1 r2.2.2.2.1 (0 : Int))))))))
theorem gq60.N (kk : Int → List ByteArray → List ByteArray → Int → Int → Option R) (w94 w93 data) : gq60.F (fun y0 y1 y2 y3 y4 => (kk y0 y1 y2 y3 y4).bind g) w94 w93 data = (gq60.F kk w94 w93 data).bind g := by
 simp only [gq60.F, u6, u9, uc, u7]
def gq60 (w94 : Int) (w93 : List (El u4)) (data : ByteArray) : Option (Int × List ByteArray × List ByteArray × Int × Int) := gq60.F (fun y0 y1 y2 y3 y4 => some (y0, y1, y2, y3, y4)) w94 w93 data
def gq60.out : (Int × List ByteArray × List ByteArray × Int × Int) → CRes := fun a => ⟨encL SV.enc [.agg [.int .i64, .own [] .str true, .own [] .str true, .int .i64], .one (.int .i64)] ((a.1, a.2.1, a.2.2.1, a.2.2.2.1, ()), a.2.2.2.2, ()), [encL SC.enc [] (), encL SC.enc [] ()]⟩
def gq60.ps : List PS := [.val [none, some (u4, false)], .val [none]]
def gq60.sA : List SA := [.v (.agg [.int .i64, .slv [] u4]), .v (.one (.str))]
def gq60.fi : FI := FIs gq60.sA (Int × List ByteArray × List ByteArray × Int × Int) (fun t => gq60 t.1.1 t.1.2.1 t.2.1) gq60.out gq60.ps
def gq60.E : Env := ⟨tt, lkF [(59, gq59.fi), (73, gq73.fi), (94, gq94.fi), (95, gq95.fi)], 60, 0, [], []⟩
theorem gq60.hok (hE : EOk Tryz.prog (gq60.E)) : HintOk Tryz.prog gq60.E (u5 Tryz.f60) (.a) := HintOk.n1 (Q := True) (by kernel_rfl) trivial
theorem gq60.hE : EOk Tryz.prog (gq60.E) := EOk.of ttOk (⟨gq59.fok, ⟨gq73.fok, ⟨gq94.fok, ⟨gq95.fok, trivial⟩⟩⟩⟩)
theorem gq60.fok : FOk Tryz.prog 60 gq60.fi :=
 fokS (E := gq60.E) (wy := ⟨[[none, some (.str, true), some (.str, true), none], [none]], [[], []], []⟩) (h := (fun gs => .a)) (G := fun t g => gq60.F (fun y0 y1 y2 y3 y4 => g (y0, y1, y2, y3, y4)) t.1.1 t.1.2.1 t.2.1) (by kernel_rfl) gq60.hE Tryz.func60 (by kernel_rfl) rfl (Nat.le_refl _) (fun t => HintOk.n1 (by kernel_rfl) (gq60.hok gq60.hE)) (fun t g => gq60.N g (fun y0 y1 y2 y3 y4 => some (y0, y1, y2, y3, y4)) _ _ _) (fun t => by kernel_rfl)
def gq61.l1 {R : Type} (kke0 : Int → Int → List (El u4) → Option R) (kkr : Int → Int → List (El u4) → Option R) : Nat → List (El u24) → Int → Int → List (El u4) → Int → Int → List (El u4) → Option R
 | 0, _, _, _, _, _, _, _ => none
 | n + 1, acts, i, d, d1, i1, x, x1 =>
  cond (decide (i < (List.length acts : Int))) (
   grd (gIx i (List.length acts)) <|
   (gq74 x x1 ((rdE u24 acts (Int.toNat i)).1) ((rdE u24 acts (Int.toNat i)).2.1) ((rdE u24 acts (Int.toNat i)).2.2.1) ((rdE u24 acts (Int.toNat i)).2.2.2.1) ((rdE u24 acts (Int.toNat i)).2.2.2.2.1) ((rdE u24 acts (Int.toNat i)).2.2.2.2.2)).bind fun r =>
   cond (r.2.2 != (0 : Int)) (kkr r.2.2 d d1) (gq61.l1 kke0 kkr n acts (IntKind.wrap .i64 (i + (1 : Int))) d d1 i1 r.1 r.2.1)) (kke0 i1 x x1)
theorem gq61.l1_nat (kke0 : Int → Int → List (El u4) → Option R) (kkr : Int → Int → List (El u4) → Option R) : ∀ n acts i d d1 i1 x x1, gq61.l1 (fun y0 y1 y2 => (kke0 y0 y1 y2).bind g) (fun y0 y1 y2 => (kkr y0 y1 y2).bind g) n acts i d d1 i1 x x1 = (gq61.l1 kke0 kkr n acts i d d1 i1 x x1).bind g := by
 intro n
 induction n with
 | zero => intros; rfl
 | succ n ih => intros; simp only [gq61.l1, u6, u9, uc, u7, ih]
def gq61.F {R : Type} (kk : Int → List (El u4) → Int → Option R) (w94 : Int) (w93 : List (El u4)) (acts : List (El u24)) : Option R :=
 gq61.l1 (fun i x x1 => kk x x1 (0 : Int)) (fun i1 i2 l => kk i2 l i1) fuel acts (0 : Int) w94 w93 (0 : Int) w94 w93
theorem gq61.N (kk : Int → List (El u4) → Int → Option R) (w94 w93 acts) : gq61.F (fun y0 y1 y2 => (kk y0 y1 y2).bind g) w94 w93 acts = (gq61.F kk w94 w93 acts).bind g := by
 simp only [gq61.F, u6, u9, uc, u7, ← gq61.l1_nat]
def gq61 (w94 : Int) (w93 : List (El u4)) (acts : List (El u24)) : Option (Int × List (El u4) × Int) := gq61.F (fun y0 y1 y2 => some (y0, y1, y2)) w94 w93 acts
def gq61.out : (Int × List (El u4) × Int) → CRes := fun a => ⟨encL SV.enc [.agg [.int .i64, .slv [0, 1] u4], .one (.int .i64)] ((a.1, a.2.1, ()), a.2.2, ()), [encL SC.enc [] (), encL SC.enc [] ()]⟩
def gq61.ps : List PS := [.val [none, some (u4, false)], .val [some (u24, false)]]
def gq61.sA : List SA := [.v (.agg [.int .i64, .slv [] u4]), .v (.one (.slv [] u24))]
def gq61.fi : FI := FIs gq61.sA (Int × List (El u4) × Int) (fun t => gq61 t.1.1 t.1.2.1 t.2.1) gq61.out gq61.ps
def gq61.E : Env := ⟨tt, lkF [(74, gq74.fi)], 32, 0, [], []⟩
def gq61.sh1 : SK := ⟨[.v (.one (.slv [2] u24)), .v (.one (.bptr 0 0)), .v (.one (.bptr 1 0)), .v (.one (.bptr 2 0)), .v (.one (.int .i64))], [.box [.int .i64, .slv [1] u4], .box [.int .i64, .nil], .box [.int .i64, .slv [0, 1] u4]]⟩
def gq61.sh1e0 : SK := ⟨[.v (.one (.bptr 0 0)), .v (.one (.bptr 1 0))], [.box [.int .i64, .nil], .box [.int .i64, .slv [0, 1] u4]]⟩
def gq61.sh1r : SK := ⟨[.v (.one (.bptr 0 0)), .v (.one (.int .i64))], [.box [.int .i64, .slv [1] u4]]⟩
def gq61.ko1 : Ex → List u16 × List Nat
 | .nrm => ([], [])
 | .ret => ([], [4, 5])
 | .ext i => cond (Nat.beq i 0) ([], [4, 6]) ([], [])
def gq61.G1 (n : Nat) (R : Type) (t : gq61.sh1.T) (K : Ex → Kp → Option R) : Option R := gq61.l1 (fun y0 y1 y2 => K (.ext 0) (SK.enc gq61.sh1e0 (((), (), ()), ((y0, (), ()), (y1, y2, ()), ())))) (fun y0 y1 y2 => K .ret (SK.enc gq61.sh1r (((), y0, ()), ((y1, y2, ()), ())))) n t.1.1 t.1.2.2.2.2.1 t.2.1.1 t.2.1.2.1 t.2.2.1.1 t.2.2.2.1.1 t.2.2.2.1.2.1
def gq61.S1 : Sum := ⟨([⟨6, true, 1, .slv [0, 1] u4⟩], [1, 2, 4, 6, 7]), sumF gq61.sh1 (gq61.G1 fuel), gq61.ko1⟩
theorem gq61.ok1 (hE : EOk Tryz.prog (gq61.E)) : u15 Tryz.prog gq61.E (cB (cR (cL (cR (cR (u5 Tryz.f61)))))) (gq61.S1) := by
 have hh : HintOk Tryz.prog gq61.E (cB (cB (cR (cL (cR (cR (u5 Tryz.f61))))))) (.a) := HintOk.n1 (Q := True) (by kernel_rfl) trivial
 have h := u2a (kin := ([⟨6, true, 1, .slv [0, 1] u4⟩], [1, 2, 4, 6, 7])) (kout := gq61.ko1) (sh := gq61.sh1) (F := gq61.G1) (u1a (hE.gv _)) (by kernel_rfl) hh (fun _ _ _ => rfl) (fun n R t K => by kernel_rfl) fuel
 exact HintOk.n1 (c := (cB (cR (cL (cR (cR (u5 Tryz.f61))))))) (h := .s (gq61.S1)) (P := Tryz.prog) (E := gq61.E) (by kernel_rfl) h
theorem gq61.hok (hE : EOk Tryz.prog (gq61.E)) : HintOk Tryz.prog gq61.E (u5 Tryz.f61) (.n (.a) (.n (.a) (.n (.n (.a) (.b (.s (gq61.S1)))) (.a)))) := HintOk.n1 (Q := (True) ∧ ((True) ∧ (((True) ∧ (u15 Tryz.prog gq61.E (cB (cR (cL (cR (cR (u5 Tryz.f61)))))) (gq61.S1))) ∧ (True)))) (by kernel_rfl) ⟨trivial, ⟨trivial, ⟨⟨trivial, (gq61.ok1 hE)⟩, trivial⟩⟩⟩
theorem gq61.hE : EOk Tryz.prog (gq61.E) := EOk.of ttOk (⟨gq74.fok, trivial⟩)
theorem gq61.fok : FOk Tryz.prog 61 gq61.fi :=
 fokS (E := gq61.E) (wy := ⟨[[none, some (u4, false)], [none]], [[], []], [⟨4, true, 1, .slv [0, 1] u4⟩]⟩) (h := (fun gs => .n (.a) (.n (.a) (.n (.n (.a) (.b (.s (gq61.S1)))) (.a))))) (G := fun t g => gq61.F (fun y0 y1 y2 => g (y0, y1, y2)) t.1.1 t.1.2.1 t.2.1) (by kernel_rfl) gq61.hE Tryz.func61 (by kernel_rfl) rfl (Nat.le_refl _) (fun t => HintOk.n1 (by kernel_rfl) (gq61.hok gq61.hE)) (fun t g => gq61.N g (fun y0 y1 y2 => some (y0, y1, y2)) _ _ _) (fun t => by kernel_rfl)
def gq111.F {R : Type} (kk : ByteArray → Option R) (n_ : Int) : Option R :=
 (gq133 n_).bind fun r =>
 (gq110 r).bind fun r1 =>
 kk (strL r1)
theorem gq111.N (kk : ByteArray → Option R) (n_) : gq111.F (fun y0 => (kk y0).bind g) n_ = (gq111.F kk n_).bind g := by
 simp only [gq111.F, u6, u9, uc, u7]
def gq111 (n_ : Int) : Option ByteArray := gq111.F (fun y0 => some y0) n_
def gq111.out : ByteArray → CRes := fun a => ⟨encL SV.enc [.one (.str)] (a, ()), [encL SC.enc [] ()]⟩
def gq111.ps : List PS := [.val [none]]
def gq111.sA : List SA := [.v (.one (.int .i64))]
def gq111.fi : FI := FIs gq111.sA (ByteArray) (fun t => gq111 t.1) gq111.out gq111.ps
def gq111.E : Env := ⟨tt, lkF [(110, gq110.fi), (133, gq133.fi)], 7, 0, [], []⟩
theorem gq111.hok (hE : EOk Tryz.prog (gq111.E)) : HintOk Tryz.prog gq111.E (u5 Tryz.f111) (.a) := HintOk.n1 (Q := True) (by kernel_rfl) trivial
theorem gq111.hE : EOk Tryz.prog (gq111.E) := EOk.of ttOk (⟨gq110.fok, ⟨gq133.fok, trivial⟩⟩)
theorem gq111.fok : FOk Tryz.prog 111 gq111.fi :=
 fokS (E := gq111.E) (wy := ⟨[[none]], [[]], []⟩) (h := (fun gs => .a)) (G := fun t g => gq111.F (fun y0 => g y0) t.1) (by kernel_rfl) gq111.hE Tryz.func111 (by kernel_rfl) rfl (Nat.le_refl _) (fun t => HintOk.n1 (by kernel_rfl) (gq111.hok gq111.hE)) (fun t g => gq111.N g (fun y0 => some y0) _) (fun t => by kernel_rfl)
def gq62.j1 {R : Type} (kkn : ByteArray → Int → ByteArray → Int → List ByteArray → List ByteArray → Int → Option R) (frame : ByteArray) (n_ : Int) (text : ByteArray) (w : Int) (w1 : List ByteArray) (w2 : List ByteArray) (w3 : Int) : Option R :=
 cond ((ByteArray.size text : Int) == (0 : Int)) (
  (gq111 (IntKind.wrap .i64 (w + (List.length w1 : Int)))).bind fun r =>
  grd (gCat r frame) <|
  kkn (r ++ frame) n_ text w w1 w2 w3) (kkn frame n_ text w w1 w2 w3)
theorem gq62.j1_nat (kkn : ByteArray → Int → ByteArray → Int → List ByteArray → List ByteArray → Int → Option R) (frame n_ text w w1 w2 w3) : gq62.j1 (fun y0 y1 y2 y3 y4 y5 y6 => (kkn y0 y1 y2 y3 y4 y5 y6).bind g) frame n_ text w w1 w2 w3 = (gq62.j1 kkn frame n_ text w w1 w2 w3).bind g := by
 simp only [gq62.j1, u6, u9, uc, u7]
def gq62.F {R : Type} (kk : List (El u24) → Option R) (w94 : Int) (w93 : List (El u4)) (wa3 : Int) (wa4 : List ByteArray) (w9e : List ByteArray) (wa5 : Int) (data : ByteArray) : Option R :=
 (gq110 (bytesL data)).bind fun r =>
 (gq95 w94 w93).bind fun r1 =>
 cond ((List.length r1 : Int) == (0 : Int)) (
  (gq99 (1 : Int)).bind fun r2 =>
  (gq111 wa3).bind fun r3 =>
  grd (gCat r3 (strL r)) <|
  kk ([((1 : Int), ((0 : Int), (r2, (ByteArray.empty, (r3 ++ (strL r), [])))))])) (
  grd (gIx (IntKind.wrap .i64 ((List.length r1 : Int) - (1 : Int))) (List.length r1)) <|
  (gq96 w94 w93 (rdE (.int .i64 : Kd) r1 (Int.toNat (IntKind.wrap .i64 ((List.length r1 : Int) - (1 : Int)))))).bind fun r4 =>
  gq62.j1 (fun frame n_ text w w1 w2 w3 =>
   cond (decide ((IntKind.wrap .i64 ((ByteArray.size text : Int) + (ByteArray.size frame : Int))) ≤ (160 : Int))) (
    (gq99 n_).bind fun r5 =>
    kk ([((1 : Int), ((0 : Int), (r5, (ByteArray.empty, (frame, [])))))])) (
    (gq99 n_).bind fun r6 =>
    (gq99 (IntKind.wrap .i64 (n_ + (1 : Int)))).bind fun r7 =>
    (gq111 (IntKind.wrap .i64 (w + (List.length w1 : Int)))).bind fun r8 =>
    grd (gCat r8 frame) <|
    kk ([((2 : Int), ((0 : Int), (r6, (ByteArray.empty, (ByteArray.empty, []))))), ((1 : Int), ((0 : Int), (r7, (ByteArray.empty, (r8 ++ frame, [])))))]))) (strL r) (rdE (.int .i64 : Kd) r1 (Int.toNat (IntKind.wrap .i64 ((List.length r1 : Int) - (1 : Int))))) r4 wa3 wa4 w9e wa5)
theorem gq62.N (kk : List (El u24) → Option R) (w94 w93 wa3 wa4 w9e wa5 data) : gq62.F (fun y0 => (kk y0).bind g) w94 w93 wa3 wa4 w9e wa5 data = (gq62.F kk w94 w93 wa3 wa4 w9e wa5 data).bind g := by
 simp only [gq62.F, u6, u9, uc, u7, ← gq62.j1_nat]
def gq62 (w94 : Int) (w93 : List (El u4)) (wa3 : Int) (wa4 : List ByteArray) (w9e : List ByteArray) (wa5 : Int) (data : ByteArray) : Option (List (El u24)) := gq62.F (fun y0 => some y0) w94 w93 wa3 wa4 w9e wa5 data
def gq62.out : (List (El u24)) → CRes := fun a => ⟨encL SV.enc [.one (.own [] u24 true)] (a, ()), [encL SC.enc [] (), encL SC.enc [] (), encL SC.enc [] ()]⟩
def gq62.ps : List PS := [.val [none, some (u4, false)], .val [none, some (.str, false), some (.str, false), none], .val [none]]
def gq62.sA : List SA := [.v (.agg [.int .i64, .slv [] u4]), .v (.agg [.int .i64, .slv [] .str, .slv [] .str, .int .i64]), .v (.one (.str))]
def gq62.fi : FI := FIs gq62.sA (List (El u24)) (fun t => gq62 t.1.1 t.1.2.1 t.2.1.1 t.2.1.2.1 t.2.1.2.2.1 t.2.1.2.2.2.1 t.2.2.1) gq62.out gq62.ps
def gq62.E : Env := ⟨tt, lkF [(95, gq95.fi), (96, gq96.fi), (99, gq99.fi), (110, gq110.fi), (111, gq111.fi)], 77, 0, [], []⟩
def gq62.sh1 : SK := ⟨[.v (.one (.bptr 0 0)), .v (.one (.str)), .v (.one (.int .i64)), .v (.one (.str))], [.box [.int .i64, .slv [2] .str, .slv [2] .str, .int .i64]]⟩
def gq62.sh1n : SK := ⟨[.v (.one (.bptr 0 0)), .v (.one (.str)), .v (.one (.int .i64)), .v (.one (.str))], [.box [.int .i64, .slv [2] .str, .slv [2] .str, .int .i64]]⟩
def gq62.ko1 : Ex → List u16 × List Nat
 | .nrm => ([], [4, 7, 9, 10])
 | .ret => ([], [])
 | .ext i => ([], [])
def gq62.G1 (R : Type) (t : gq62.sh1.T) (K : Ex → Kp → Option R) : Option R := gq62.j1 (fun y0 y1 y2 y3 y4 y5 y6 => K .nrm (SK.enc gq62.sh1n (((), y0, y1, y2, ()), ((y3, y4, y5, y6, ()), ())))) t.1.2.1 t.1.2.2.1 t.1.2.2.2.1 t.2.1.1 t.2.1.2.1 t.2.1.2.2.1 t.2.1.2.2.2.1
def gq62.S1 : Sum := ⟨([], [4, 7, 9, 10]), sumF gq62.sh1 (gq62.G1), gq62.ko1⟩
theorem gq62.ok1 (hE : EOk Tryz.prog (gq62.E)) : u15 Tryz.prog gq62.E (cL (cR (cR (cR (cR (cR (cR (u5 Tryz.f62)))))))) (gq62.S1) := by
 have hh : HintOk Tryz.prog gq62.E (cL (cR (cR (cR (cR (cR (cR (u5 Tryz.f62)))))))) (.a) := HintOk.n1 (Q := True) (by kernel_rfl) trivial
 exact sumS (kin := ([], [4, 7, 9, 10])) (kout := gq62.ko1) (sh := gq62.sh1) (F := gq62.G1) (u1a (hE.gv _)) (by kernel_rfl) hh (fun R t K => by kernel_rfl)
theorem gq62.hok (hE : EOk Tryz.prog (gq62.E)) : HintOk Tryz.prog gq62.E (u5 Tryz.f62) (.n (.a) (.n (.a) (.n (.a) (.n (.a) (.n (.a) (.n (.a) (.n (.s (gq62.S1)) (.a)))))))) := HintOk.n1 (Q := (True) ∧ ((True) ∧ ((True) ∧ ((True) ∧ ((True) ∧ ((True) ∧ ((u15 Tryz.prog gq62.E (cL (cR (cR (cR (cR (cR (cR (u5 Tryz.f62)))))))) (gq62.S1)) ∧ (True)))))))) (by kernel_rfl) ⟨trivial, ⟨trivial, ⟨trivial, ⟨trivial, ⟨trivial, ⟨trivial, ⟨(gq62.ok1 hE), trivial⟩⟩⟩⟩⟩⟩⟩
theorem gq62.hE : EOk Tryz.prog (gq62.E) := EOk.of ttOk (⟨gq95.fok, ⟨gq96.fok, ⟨gq99.fok, ⟨gq110.fok, ⟨gq111.fok, trivial⟩⟩⟩⟩⟩)
theorem gq62.fok : FOk Tryz.prog 62 gq62.fi :=
 fokS (E := gq62.E) (wy := ⟨[[some (u24, true)]], [[], [], []], []⟩) (h := (fun gs => .n (.a) (.n (.a) (.n (.a) (.n (.a) (.n (.a) (.n (.a) (.n (.s (gq62.S1)) (.a))))))))) (G := fun t g => gq62.F (fun y0 => g y0) t.1.1 t.1.2.1 t.2.1.1 t.2.1.2.1 t.2.1.2.2.1 t.2.1.2.2.2.1 t.2.2.1) (by kernel_rfl) gq62.hE Tryz.func62 (by kernel_rfl) rfl (Nat.le_refl _) (fun t => HintOk.n1 (by kernel_rfl) (gq62.hok gq62.hE)) (fun t g => gq62.N g (fun y0 => some y0) _ _ _ _ _ _ _) (fun t => by kernel_rfl)
def gq159.l1 {R : Type} (kke0 : List Int → Option R) (kkr : Bool → List Int → Option R) : Nat → ByteArray → Int → List Int → Option R
 | 0, _, _, _ => none
 | n + 1, data, i, out =>
  cond (decide (i < (ByteArray.size data : Int))) (
   grd (gIx i (ByteArray.size data)) <|
   (gq59 (IntKind.wrap .i64 (u21 data i)) (0 : Int) (6 : Int)).bind fun r =>
   cond (!r) (kkr false ([] : List Int)) (
    cond (decide (i > (0 : Int))) (
     grd (gIx (IntKind.wrap .i64 (i - (1 : Int))) (ByteArray.size data)) <|
     grd (gIx i (ByteArray.size data)) <|
     cond (decide ((u21 data (IntKind.wrap .i64 (i - (1 : Int)))) ≥ (u21 data i))) (kkr false ([] : List Int)) (
      grd (gIx i (ByteArray.size data)) <|
      grd (gRm (((List.length out) + (List.length [IntKind.wrap .i64 (u21 data i)])) * 8)) <|
      gq159.l1 kke0 kkr n data (IntKind.wrap .i64 (i + (1 : Int))) (out ++ [IntKind.wrap .i64 (u21 data i)]))) (
     grd (gIx i (ByteArray.size data)) <|
     grd (gRm (((List.length out) + (List.length [IntKind.wrap .i64 (u21 data i)])) * 8)) <|
     gq159.l1 kke0 kkr n data (IntKind.wrap .i64 (i + (1 : Int))) (out ++ [IntKind.wrap .i64 (u21 data i)])))) (kke0 out)
theorem gq159.l1_nat (kke0 : List Int → Option R) (kkr : Bool → List Int → Option R) : ∀ n data i out, gq159.l1 (fun y0 => (kke0 y0).bind g) (fun y0 y1 => (kkr y0 y1).bind g) n data i out = (gq159.l1 kke0 kkr n data i out).bind g := by
 intro n
 induction n with
 | zero => intros; rfl
 | succ n ih => intros; simp only [gq159.l1, u6, u9, uc, u7, ih]
def gq159.F {R : Type} (kk : List Int → Bool → Option R) (data : ByteArray) : Option R :=
 gq159.l1 (fun out => kk out (decide ((List.length out : Int) > (0 : Int)))) (fun b l => kk l b) fuel data (0 : Int) ([] : List Int)
theorem gq159.N (kk : List Int → Bool → Option R) (data) : gq159.F (fun y0 y1 => (kk y0 y1).bind g) data = (gq159.F kk data).bind g := by
 simp only [gq159.F, u6, u9, uc, u7, ← gq159.l1_nat]
def gq159 (data : ByteArray) : Option (List Int × Bool) := gq159.F (fun y0 y1 => some (y0, y1)) data
def gq159.out : (List Int × Bool) → CRes := fun a => ⟨encL SV.enc [.one (.own [] (.int .i64) true), .one (.bool)] (a.1, a.2, ()), [encL SC.enc [] ()]⟩
def gq159.ps : List PS := [.val [none]]
def gq159.sA : List SA := [.v (.one (.str))]
def gq159.fi : FI := FIs gq159.sA (List Int × Bool) (fun t => gq159 t.1) gq159.out gq159.ps
def gq159.E : Env := ⟨tt, lkF [(59, gq59.fi)], 45, 0, [], []⟩
def gq159.sh1 : SK := ⟨[.v (.one (.str)), .v (.one (.slo 0)), .v (.one (.int .i64))], [.arr (.int .i64) [] true]⟩
def gq159.sh1e0 : SK := ⟨[.v (.one (.slo 0))], [.arr (.int .i64) [] true]⟩
def gq159.sh1r : SK := ⟨[.v (.one (.slo 0)), .v (.one (.bool))], [.arr (.int .i64) [] true]⟩
def gq159.ko1 : Ex → List u16 × List Nat
 | .nrm => ([], [])
 | .ret => ([], [2, 3])
 | .ext i => cond (Nat.beq i 0) ([], [4]) ([], [])
def gq159.G1 (n : Nat) (R : Type) (t : gq159.sh1.T) (K : Ex → Kp → Option R) : Option R := gq159.l1 (fun y0 => K (.ext 0) (SK.enc gq159.sh1e0 (((), ()), (y0, ())))) (fun y0 y1 => K .ret (SK.enc gq159.sh1r (((), y0, ()), (y1, ())))) n t.1.1 t.1.2.2.1 t.2.1
def gq159.S1 : Sum := ⟨([], [0, 4, 5]), sumF gq159.sh1 (gq159.G1 fuel), gq159.ko1⟩
theorem gq159.ok1 (hE : EOk Tryz.prog (gq159.E)) : u15 Tryz.prog gq159.E (cB (cR (cL (cR (cR (u5 Tryz.f159)))))) (gq159.S1) := by
 have hh : HintOk Tryz.prog gq159.E (cB (cB (cR (cL (cR (cR (u5 Tryz.f159))))))) (.a) := HintOk.n1 (Q := True) (by kernel_rfl) trivial
 have h := u2a (kin := ([], [0, 4, 5])) (kout := gq159.ko1) (sh := gq159.sh1) (F := gq159.G1) (u1a (hE.gv _)) (by kernel_rfl) hh (fun _ _ _ => rfl) (fun n R t K => by kernel_rfl) fuel
 exact HintOk.n1 (c := (cB (cR (cL (cR (cR (u5 Tryz.f159))))))) (h := .s (gq159.S1)) (P := Tryz.prog) (E := gq159.E) (by kernel_rfl) h
theorem gq159.hok (hE : EOk Tryz.prog (gq159.E)) : HintOk Tryz.prog gq159.E (u5 Tryz.f159) (.n (.a) (.n (.a) (.n (.n (.a) (.b (.s (gq159.S1)))) (.a)))) := HintOk.n1 (Q := (True) ∧ ((True) ∧ (((True) ∧ (u15 Tryz.prog gq159.E (cB (cR (cL (cR (cR (u5 Tryz.f159)))))) (gq159.S1))) ∧ (True)))) (by kernel_rfl) ⟨trivial, ⟨trivial, ⟨⟨trivial, (gq159.ok1 hE)⟩, trivial⟩⟩⟩
theorem gq159.hE : EOk Tryz.prog (gq159.E) := EOk.of ttOk (⟨gq59.fok, trivial⟩)
theorem gq159.fok : FOk Tryz.prog 159 gq159.fi :=
 fokS (E := gq159.E) (wy := ⟨[[some ((.int .i64), true)], [none]], [[]], []⟩) (h := (fun gs => .n (.a) (.n (.a) (.n (.n (.a) (.b (.s (gq159.S1)))) (.a))))) (G := fun t g => gq159.F (fun y0 y1 => g (y0, y1)) t.1) (by kernel_rfl) gq159.hE Tryz.func159 (by kernel_rfl) rfl (Nat.le_refl _) (fun t => HintOk.n1 (by kernel_rfl) (gq159.hok gq159.hE)) (fun t g => gq159.N g (fun y0 y1 => some (y0, y1)) _) (fun t => by kernel_rfl)
def gq132.F {R : Type} (kk : Bool → Option R) (wb0 : Int) (wa6 : Int) (w9f : ByteArray) : Option R :=
 (gq59 wb0 (1 : Int) (1000000 : Int)).bind fun r =>
 cond (!r) (kk false) (
  cond (wa6 == (0 : Int)) (kk (sEq w9f ByteArray.empty)) (
   cond (wa6 == (1 : Int)) (
    cond (decide ((ByteArray.size w9f : Int) ≥ (1 : Int))) (kk (decide ((ByteArray.size w9f : Int) ≤ (100 : Int)))) (kk false)) (
    cond (wa6 == (2 : Int)) (
     (gq159 w9f).bind fun r1 =>
     kk r1.2) (kk false))))
theorem gq132.N (kk : Bool → Option R) (wb0 wa6 w9f) : gq132.F (fun y0 => (kk y0).bind g) wb0 wa6 w9f = (gq132.F kk wb0 wa6 w9f).bind g := by
 simp only [gq132.F, u6, u9, uc, u7]
def gq132 (wb0 : Int) (wa6 : Int) (w9f : ByteArray) : Option Bool := gq132.F (fun y0 => some y0) wb0 wa6 w9f
def gq132.out : Bool → CRes := fun a => ⟨encL SV.enc [.one (.bool)] (a, ()), [encL SC.enc [] ()]⟩
def gq132.ps : List PS := [.val [none, none, none]]
def gq132.sA : List SA := [.v (.agg [.int .i64, .int .i64, .str])]
def gq132.fi : FI := FIs gq132.sA (Bool) (fun t => gq132 t.1.1 t.1.2.1 t.1.2.2.1) gq132.out gq132.ps
def gq132.E : Env := ⟨tt, lkF [(59, gq59.fi), (159, gq159.fi)], 37, 0, [], []⟩
theorem gq132.hok (hE : EOk Tryz.prog (gq132.E)) : HintOk Tryz.prog gq132.E (u5 Tryz.f132) (.a) := HintOk.n1 (Q := True) (by kernel_rfl) trivial
theorem gq132.hE : EOk Tryz.prog (gq132.E) := EOk.of ttOk (⟨gq59.fok, ⟨gq159.fok, trivial⟩⟩)
theorem gq132.fok : FOk Tryz.prog 132 gq132.fi :=
 fokS (E := gq132.E) (wy := ⟨[[none]], [[]], []⟩) (h := (fun gs => .a)) (G := fun t g => gq132.F (fun y0 => g y0) t.1.1 t.1.2.1 t.1.2.2.1) (by kernel_rfl) gq132.hE Tryz.func132 (by kernel_rfl) rfl (Nat.le_refl _) (fun t => HintOk.n1 (by kernel_rfl) (gq132.hok gq132.hE)) (fun t g => gq132.N g (fun y0 => some y0) _ _ _) (fun t => by kernel_rfl)
def gq79.l1 {R : Type} (kke0 : Option R) (kkr : Bool → Option R) : Nat → Int → Int → Int → List (El ue) → Option R
 | 0, _, _, _, _ => none
 | n + 1, i, s, s1, s2 =>
  cond (decide (i < (List.length s2 : Int))) (
   grd (gIx i (List.length s2)) <|
   (gq132 ((rdE ue s2 (Int.toNat i)).1) ((rdE ue s2 (Int.toNat i)).2.1) ((rdE ue s2 (Int.toNat i)).2.2)).bind fun r =>
   cond (!r) (kkr false) (
    grd (gIx i (List.length s2)) <|
    cond (decide ((rdE ue s2 (Int.toNat i)).1 > s)) (kkr false) (
     cond (decide (i > (0 : Int))) (
      grd (gIx (IntKind.wrap .i64 (i - (1 : Int))) (List.length s2)) <|
      grd (gIx i (List.length s2)) <|
      cond (decide ((rdE ue s2 (Int.toNat (IntKind.wrap .i64 (i - (1 : Int))))).1 > (rdE ue s2 (Int.toNat i)).1)) (kkr false) (gq79.l1 kke0 kkr n (IntKind.wrap .i64 (i + (1 : Int))) s s1 s2)) (gq79.l1 kke0 kkr n (IntKind.wrap .i64 (i + (1 : Int))) s s1 s2)))) (kke0)
theorem gq79.l1_nat (kke0 : Option R) (kkr : Bool → Option R) : ∀ n i s s1 s2, gq79.l1 (kke0.bind g) (fun y0 => (kkr y0).bind g) n i s s1 s2 = (gq79.l1 kke0 kkr n i s s1 s2).bind g := by
 intro n
 induction n with
 | zero => intros; rfl
 | succ n ih => intros; simp only [gq79.l1, u6, u9, uc, u7, ih]
def gq79.F {R : Type} (kk : Bool → Option R) (w99 : Int) (w9a : Int) (w98 : List (El ue)) : Option R :=
 (gq59 w99 (0 : Int) (1000000 : Int)).bind fun r =>
 cond (!r) (kk false) (
  (gq59 w9a (-1 : Int) (6 : Int)).bind fun r1 =>
  cond (!r1) (kk false) (
   cond (decide ((List.length w98 : Int) > (60 : Int))) (kk false) (gq79.l1 (kk true) (fun b => kk b) fuel (0 : Int) w99 w9a w98)))
theorem gq79.N (kk : Bool → Option R) (w99 w9a w98) : gq79.F (fun y0 => (kk y0).bind g) w99 w9a w98 = (gq79.F kk w99 w9a w98).bind g := by
 simp only [gq79.F, u6, u9, uc, u7, ← gq79.l1_nat]
def gq79 (w99 : Int) (w9a : Int) (w98 : List (El ue)) : Option Bool := gq79.F (fun y0 => some y0) w99 w9a w98
def gq79.out : Bool → CRes := fun a => ⟨encL SV.enc [.one (.bool)] (a, ()), [encL SC.enc [] ()]⟩
def gq79.ps : List PS := [.val [none, none, some (ue, false)]]
def gq79.sA : List SA := [.v (.agg [.int .i64, .int .i64, .slv [] ue])]
def gq79.fi : FI := FIs gq79.sA (Bool) (fun t => gq79 t.1.1 t.1.2.1 t.1.2.2.1) gq79.out gq79.ps
def gq79.E : Env := ⟨tt, lkF [(59, gq59.fi), (132, gq132.fi)], 65, 0, [], []⟩
def gq79.sh1 : SK := ⟨[.v (.one (.bptr 0 0)), .v (.one (.int .i64))], [.box [.int .i64, .int .i64, .slv [1] ue]]⟩
def gq79.sh1e0 : SK := ⟨[], []⟩
def gq79.sh1r : SK := ⟨[.v (.one (.bool))], []⟩
def gq79.ko1 : Ex → List u16 × List Nat
 | .nrm => ([], [])
 | .ret => ([], [2])
 | .ext i => cond (Nat.beq i 0) ([], []) ([], [])
def gq79.G1 (n : Nat) (R : Type) (t : gq79.sh1.T) (K : Ex → Kp → Option R) : Option R := gq79.l1 (K (.ext 0) (SK.enc gq79.sh1e0 ((), ()))) (fun y0 => K .ret (SK.enc gq79.sh1r ((y0, ()), ()))) n t.1.2.1 t.2.1.1 t.2.1.2.1 t.2.1.2.2.1
def gq79.S1 : Sum := ⟨([], [1, 3]), sumF gq79.sh1 (gq79.G1 fuel), gq79.ko1⟩
theorem gq79.ok1 (hE : EOk Tryz.prog (gq79.E)) : u15 Tryz.prog gq79.E (cB (cR (cL (cR (cR (u5 Tryz.f79)))))) (gq79.S1) := by
 have hh : HintOk Tryz.prog gq79.E (cB (cB (cR (cL (cR (cR (u5 Tryz.f79))))))) (.a) := HintOk.n1 (Q := True) (by kernel_rfl) trivial
 have h := u2a (kin := ([], [1, 3])) (kout := gq79.ko1) (sh := gq79.sh1) (F := gq79.G1) (u1a (hE.gv _)) (by kernel_rfl) hh (fun _ _ _ => rfl) (fun n R t K => by kernel_rfl) fuel
 exact HintOk.n1 (c := (cB (cR (cL (cR (cR (u5 Tryz.f79))))))) (h := .s (gq79.S1)) (P := Tryz.prog) (E := gq79.E) (by kernel_rfl) h
theorem gq79.hok (hE : EOk Tryz.prog (gq79.E)) : HintOk Tryz.prog gq79.E (u5 Tryz.f79) (.n (.a) (.n (.a) (.n (.n (.a) (.b (.s (gq79.S1)))) (.a)))) := HintOk.n1 (Q := (True) ∧ ((True) ∧ (((True) ∧ (u15 Tryz.prog gq79.E (cB (cR (cL (cR (cR (u5 Tryz.f79)))))) (gq79.S1))) ∧ (True)))) (by kernel_rfl) ⟨trivial, ⟨trivial, ⟨⟨trivial, (gq79.ok1 hE)⟩, trivial⟩⟩⟩
theorem gq79.hE : EOk Tryz.prog (gq79.E) := EOk.of ttOk (⟨gq59.fok, ⟨gq132.fok, trivial⟩⟩)
theorem gq79.fok : FOk Tryz.prog 79 gq79.fi :=
 fokS (E := gq79.E) (wy := ⟨[[none]], [[]], []⟩) (h := (fun gs => .n (.a) (.n (.a) (.n (.n (.a) (.b (.s (gq79.S1)))) (.a))))) (G := fun t g => gq79.F (fun y0 => g y0) t.1.1 t.1.2.1 t.1.2.2.1) (by kernel_rfl) gq79.hE Tryz.func79 (by kernel_rfl) rfl (Nat.le_refl _) (fun t => HintOk.n1 (by kernel_rfl) (gq79.hok gq79.hE)) (fun t g => gq79.N g (fun y0 => some y0) _ _ _) (fun t => by kernel_rfl)
def gq134.F {R : Type} (kk : List Int → Option R) (wb0 : Int) (wa6 : Int) (w9f : ByteArray) : Option R :=
 (gq133 wb0).bind fun r =>
 grd (gRm (((List.length r) + (List.length [IntKind.wrap .u8 wa6, IntKind.wrap .u8 (ByteArray.size w9f : Int)])) * 1)) <|
 grd (gRm (((List.length (r ++ [IntKind.wrap .u8 wa6, IntKind.wrap .u8 (ByteArray.size w9f : Int)])) + (List.length (bytesL w9f))) * 1)) <|
 kk ((r ++ [IntKind.wrap .u8 wa6, IntKind.wrap .u8 (ByteArray.size w9f : Int)]) ++ (bytesL w9f))
theorem gq134.N (kk : List Int → Option R) (wb0 wa6 w9f) : gq134.F (fun y0 => (kk y0).bind g) wb0 wa6 w9f = (gq134.F kk wb0 wa6 w9f).bind g := by
 simp only [gq134.F, u6, u9, uc, u7]
def gq134 (wb0 : Int) (wa6 : Int) (w9f : ByteArray) : Option (List Int) := gq134.F (fun y0 => some y0) wb0 wa6 w9f
def gq134.out : (List Int) → CRes := fun a => ⟨encL SV.enc [.one (.own [] (.int .u8) true)] (a, ()), [encL SC.enc [] ()]⟩
def gq134.ps : List PS := [.val [none, none, none]]
def gq134.sA : List SA := [.v (.agg [.int .i64, .int .i64, .str])]
def gq134.fi : FI := FIs gq134.sA (List Int) (fun t => gq134 t.1.1 t.1.2.1 t.1.2.2.1) gq134.out gq134.ps
def gq134.E : Env := ⟨tt, lkF [(133, gq133.fi)], 20, 0, [], []⟩
theorem gq134.hok (hE : EOk Tryz.prog (gq134.E)) : HintOk Tryz.prog gq134.E (u5 Tryz.f134) (.a) := HintOk.n1 (Q := True) (by kernel_rfl) trivial
theorem gq134.hE : EOk Tryz.prog (gq134.E) := EOk.of ttOk (⟨gq133.fok, trivial⟩)
theorem gq134.fok : FOk Tryz.prog 134 gq134.fi :=
 fokS (E := gq134.E) (wy := ⟨[[some ((.int .u8), true)]], [[]], []⟩) (h := (fun gs => .a)) (G := fun t g => gq134.F (fun y0 => g y0) t.1.1 t.1.2.1 t.1.2.2.1) (by kernel_rfl) gq134.hE Tryz.func134 (by kernel_rfl) rfl (Nat.le_refl _) (fun t => HintOk.n1 (by kernel_rfl) (gq134.hok gq134.hE)) (fun t g => gq134.N g (fun y0 => some y0) _ _ _) (fun t => by kernel_rfl)
def gq80.j1 {R : Type} (kkn : Bool → Int → Int → List (El ue) → Int → Int → List (El ue) → List ByteArray → Option R) (was : Int) (was1 : Int) (was2 : List (El ue)) (now : Int) (now1 : Int) (now2 : List (El ue)) (out : List ByteArray) : Option R :=
 cond (was != now) (kkn true was was1 was2 now now1 now2 out) (kkn (was1 != now1) was was1 was2 now now1 now2 out)
theorem gq80.j1_nat (kkn : Bool → Int → Int → List (El ue) → Int → Int → List (El ue) → List ByteArray → Option R) (was was1 was2 now now1 now2 out) : gq80.j1 (fun y0 y1 y2 y3 y4 y5 y6 y7 => (kkn y0 y1 y2 y3 y4 y5 y6 y7).bind g) was was1 was2 now now1 now2 out = (gq80.j1 kkn was was1 was2 now now1 now2 out).bind g := by
 simp only [gq80.j1, u6, u9, uc, u7]
def gq80.j2 {R : Type} (kkn : Int → Int → List (El ue) → Int → Int → List (El ue) → List ByteArray → Option R) (was : Int) (was1 : Int) (was2 : List (El ue)) (now : Int) (now1 : Int) (now2 : List (El ue)) (out : List ByteArray) : Option R :=
 gq80.j1 (fun b was3 was4 was5 now3 now4 now5 out1 =>
  cond (b) (
   (gq133 now3).bind fun r =>
   grd (gCat (⟨#[84]⟩ : ByteArray) (strL r)) <|
   grd (gCat ((⟨#[84]⟩ : ByteArray) ++ (strL r)) (strL [IntKind.wrap .u8 (IntKind.wrap .i64 (now4 + (1 : Int)))])) <|
   grd (gRm (((List.length out1) + (List.length ([((⟨#[84]⟩ : ByteArray) ++ (strL r)) ++ (strL [IntKind.wrap .u8 (IntKind.wrap .i64 (now4 + (1 : Int)))])]))) * 16)) <|
   kkn was3 was4 was5 now3 now4 now5 (out1 ++ ([((⟨#[84]⟩ : ByteArray) ++ (strL r)) ++ (strL [IntKind.wrap .u8 (IntKind.wrap .i64 (now4 + (1 : Int)))])]))) (kkn was3 was4 was5 now3 now4 now5 out1)) was was1 was2 now now1 now2 out
theorem gq80.j2_nat (kkn : Int → Int → List (El ue) → Int → Int → List (El ue) → List ByteArray → Option R) (was was1 was2 now now1 now2 out) : gq80.j2 (fun y0 y1 y2 y3 y4 y5 y6 => (kkn y0 y1 y2 y3 y4 y5 y6).bind g) was was1 was2 now now1 now2 out = (gq80.j2 kkn was was1 was2 now now1 now2 out).bind g := by
 simp only [gq80.j2, u6, u9, uc, u7, ← gq80.j1_nat]
def gq80.l3 {R : Type} (kke0 : Int → Int → Int → List (El ue) → Int → Int → List (El ue) → List ByteArray → Option R) : Nat → Int → Int → Int → List (El ue) → Int → Int → List (El ue) → List ByteArray → Option R
 | 0, _, _, _, _, _, _, _, _ => none
 | n + 1, k_, was, was1, was2, now, now1, now2, out =>
  cond (decide (k_ < (List.length was2 : Int))) (
   cond (decide (k_ < (List.length now2 : Int))) (
    grd (gIx k_ (List.length was2)) <|
    grd (gIx k_ (List.length now2)) <|
    cond (((rdE ue was2 (Int.toNat k_)).1 == (rdE ue now2 (Int.toNat k_)).1) && (((rdE ue was2 (Int.toNat k_)).2.1 == (rdE ue now2 (Int.toNat k_)).2.1) && (sEq (rdE ue was2 (Int.toNat k_)).2.2 (rdE ue now2 (Int.toNat k_)).2.2))) (
     gq80.l3 kke0 n (IntKind.wrap .i64 (k_ + (1 : Int))) was was1 was2 now now1 now2 out) (kke0 k_ was was1 was2 now now1 now2 out)) (kke0 k_ was was1 was2 now now1 now2 out)) (kke0 k_ was was1 was2 now now1 now2 out)
theorem gq80.l3_nat (kke0 : Int → Int → Int → List (El ue) → Int → Int → List (El ue) → List ByteArray → Option R) : ∀ n k_ was was1 was2 now now1 now2 out, gq80.l3 (fun y0 y1 y2 y3 y4 y5 y6 y7 => (kke0 y0 y1 y2 y3 y4 y5 y6 y7).bind g) n k_ was was1 was2 now now1 now2 out = (gq80.l3 kke0 n k_ was was1 was2 now now1 now2 out).bind g := by
 intro n
 induction n with
 | zero => intros; rfl
 | succ n ih => intros; simp only [gq80.l3, u6, u9, uc, u7, ih]
def gq80.j4 {R : Type} (kkn : Int → Int → Int → List (El ue) → List ByteArray → Option R) (k_ : Int) (was : Int) (was1 : Int) (was2 : List (El ue)) (now : Int) (now1 : Int) (now2 : List (El ue)) (out : List ByteArray) : Option R :=
 cond (decide (k_ < (List.length was2 : Int))) (
  (gq133 k_).bind fun r =>
  grd (gCat (⟨#[67]⟩ : ByteArray) (strL r)) <|
  grd (gRm (((List.length out) + (List.length ([(⟨#[67]⟩ : ByteArray) ++ (strL r)]))) * 16)) <|
  kkn k_ now now1 now2 (out ++ ([(⟨#[67]⟩ : ByteArray) ++ (strL r)]))) (kkn k_ now now1 now2 out)
theorem gq80.j4_nat (kkn : Int → Int → Int → List (El ue) → List ByteArray → Option R) (k_ was was1 was2 now now1 now2 out) : gq80.j4 (fun y0 y1 y2 y3 y4 => (kkn y0 y1 y2 y3 y4).bind g) k_ was was1 was2 now now1 now2 out = (gq80.j4 kkn k_ was was1 was2 now now1 now2 out).bind g := by
 simp only [gq80.j4, u6, u9, uc, u7]
def gq80.l5 {R : Type} (kke2 : List ByteArray → Option R) : Nat → Int → Int → Int → List (El ue) → List ByteArray → Option R
 | 0, _, _, _, _, _ => none
 | n + 1, i, now, now1, now2, out =>
  cond (decide (i < (List.length now2 : Int))) (
   grd (gIx i (List.length now2)) <|
   (gq134 ((rdE ue now2 (Int.toNat i)).1) ((rdE ue now2 (Int.toNat i)).2.1) ((rdE ue now2 (Int.toNat i)).2.2)).bind fun r =>
   grd (gCat (⟨#[69]⟩ : ByteArray) (strL r)) <|
   grd (gRm (((List.length out) + (List.length ([(⟨#[69]⟩ : ByteArray) ++ (strL r)]))) * 16)) <|
   gq80.l5 kke2 n (IntKind.wrap .i64 (i + (1 : Int))) now now1 now2 (out ++ ([(⟨#[69]⟩ : ByteArray) ++ (strL r)]))) (kke2 out)
theorem gq80.l5_nat (kke2 : List ByteArray → Option R) : ∀ n i now now1 now2 out, gq80.l5 (fun y0 => (kke2 y0).bind g) n i now now1 now2 out = (gq80.l5 kke2 n i now now1 now2 out).bind g := by
 intro n
 induction n with
 | zero => intros; rfl
 | succ n ih => intros; simp only [gq80.l5, u6, u9, uc, u7, ih]
def gq80.F {R : Type} (kk : List ByteArray → Option R) (wa7 : Int) (wa8 : Int) (wa9 : List (El ue)) (waa : Int) (wab : Int) (wac : List (El ue)) : Option R :=
 gq80.j2 (fun was was1 was2 now now1 now2 out =>
  gq80.l3 (fun k_ was3 was4 was5 now3 now4 now5 out1 =>
   gq80.j4 (fun k_1 now6 now7 now8 out2 => gq80.l5 (fun out3 => kk out3) fuel k_1 now6 now7 now8 out2) k_ was3 was4 was5 now3 now4 now5 out1) fuel (0 : Int) was was1 was2 now now1 now2 out) wa7 wa8 wa9 waa wab wac ([] : List ByteArray)
theorem gq80.N (kk : List ByteArray → Option R) (wa7 wa8 wa9 waa wab wac) : gq80.F (fun y0 => (kk y0).bind g) wa7 wa8 wa9 waa wab wac = (gq80.F kk wa7 wa8 wa9 waa wab wac).bind g := by
 simp only [gq80.F, u6, u9, uc, u7, ← gq80.j2_nat, ← gq80.l3_nat, ← gq80.j4_nat, ← gq80.l5_nat]
def gq80 (wa7 : Int) (wa8 : Int) (wa9 : List (El ue)) (waa : Int) (wab : Int) (wac : List (El ue)) : Option (List ByteArray) := gq80.F (fun y0 => some y0) wa7 wa8 wa9 waa wab wac
def gq80.out : (List ByteArray) → CRes := fun a => ⟨encL SV.enc [.one (.own [] .str true)] (a, ()), [encL SC.enc [] (), encL SC.enc [] ()]⟩
def gq80.ps : List PS := [.val [none, none, some (ue, false)], .val [none, none, some (ue, false)]]
def gq80.sA : List SA := [.v (.agg [.int .i64, .int .i64, .slv [] ue]), .v (.agg [.int .i64, .int .i64, .slv [] ue])]
def gq80.fi : FI := FIs gq80.sA (List ByteArray) (fun t => gq80 t.1.1 t.1.2.1 t.1.2.2.1 t.2.1.1 t.2.1.2.1 t.2.1.2.2.1) gq80.out gq80.ps
def gq80.E : Env := ⟨tt, lkF [(133, gq133.fi), (134, gq134.fi)], 95, 0, [], []⟩
def gq80.sh1 : SK := ⟨[.v (.one (.bptr 0 0)), .v (.one (.bptr 1 0)), .v (.one (.slo 2))], [.box [.int .i64, .int .i64, .slv [1] ue], .box [.int .i64, .int .i64, .slv [2] ue], .arr .str [] true]⟩
def gq80.sh1n : SK := ⟨[.v (.one (.bptr 0 0)), .v (.one (.bptr 1 0)), .v (.one (.slo 2)), .v (.one (.bool))], [.box [.int .i64, .int .i64, .slv [1] ue], .box [.int .i64, .int .i64, .slv [2] ue], .arr .str [] true]⟩
def gq80.ko1 : Ex → List u16 × List Nat
 | .nrm => ([], [2, 3, 5, 20])
 | .ret => ([], [])
 | .ext i => ([], [])
def gq80.G1 (R : Type) (t : gq80.sh1.T) (K : Ex → Kp → Option R) : Option R := gq80.j1 (fun y0 y1 y2 y3 y4 y5 y6 y7 => K .nrm (SK.enc gq80.sh1n (((), (), (), y0, ()), ((y1, y2, y3, ()), (y4, y5, y6, ()), y7, ())))) t.2.1.1 t.2.1.2.1 t.2.1.2.2.1 t.2.2.1.1 t.2.2.1.2.1 t.2.2.1.2.2.1 t.2.2.2.1
def gq80.S1 : Sum := ⟨([], [2, 3, 5]), sumF gq80.sh1 (gq80.G1), gq80.ko1⟩
theorem gq80.ok1 (hE : EOk Tryz.prog (gq80.E)) : u15 Tryz.prog gq80.E (cL (cL (cR (cR (u5 Tryz.f80))))) (gq80.S1) := by
 have hh : HintOk Tryz.prog gq80.E (cL (cL (cR (cR (u5 Tryz.f80))))) (.a) := HintOk.n1 (Q := True) (by kernel_rfl) trivial
 exact sumS (kin := ([], [2, 3, 5])) (kout := gq80.ko1) (sh := gq80.sh1) (F := gq80.G1) (u1a (hE.gv _)) (by kernel_rfl) hh (fun R t K => by kernel_rfl)
def gq80.sh2 : SK := ⟨[.v (.one (.bptr 0 0)), .v (.one (.bptr 1 0)), .v (.one (.slo 2))], [.box [.int .i64, .int .i64, .slv [1] ue], .box [.int .i64, .int .i64, .slv [2] ue], .arr .str [] true]⟩
def gq80.sh2n : SK := ⟨[.v (.one (.bptr 0 0)), .v (.one (.bptr 1 0)), .v (.one (.slo 2))], [.box [.int .i64, .int .i64, .slv [1] ue], .box [.int .i64, .int .i64, .slv [2] ue], .arr .str [] true]⟩
def gq80.ko2 : Ex → List u16 × List Nat
 | .nrm => ([], [2, 3, 5])
 | .ret => ([], [])
 | .ext i => ([], [])
def gq80.G2 (R : Type) (t : gq80.sh2.T) (K : Ex → Kp → Option R) : Option R := gq80.j2 (fun y0 y1 y2 y3 y4 y5 y6 => K .nrm (SK.enc gq80.sh2n (((), (), (), ()), ((y0, y1, y2, ()), (y3, y4, y5, ()), y6, ())))) t.2.1.1 t.2.1.2.1 t.2.1.2.2.1 t.2.2.1.1 t.2.2.1.2.1 t.2.2.1.2.2.1 t.2.2.2.1
def gq80.S2 : Sum := ⟨([], [2, 3, 5]), sumF gq80.sh2 (gq80.G2), gq80.ko2⟩
theorem gq80.ok2 (hE : EOk Tryz.prog (gq80.E)) : u15 Tryz.prog gq80.E (cL (cR (cR (u5 Tryz.f80)))) (gq80.S2) := by
 have hh : HintOk Tryz.prog gq80.E (cL (cR (cR (u5 Tryz.f80)))) (.n (.s (gq80.S1)) (.a)) := HintOk.n1 (Q := (u15 Tryz.prog gq80.E (cL (cL (cR (cR (u5 Tryz.f80))))) (gq80.S1)) ∧ (True)) (by kernel_rfl) ⟨(gq80.ok1 hE), trivial⟩
 exact sumS (kin := ([], [2, 3, 5])) (kout := gq80.ko2) (sh := gq80.sh2) (F := gq80.G2) (u1a (hE.gv _)) (by kernel_rfl) hh (fun R t K => by kernel_rfl)
def gq80.sh3 : SK := ⟨[.v (.one (.bptr 0 0)), .v (.one (.bptr 1 0)), .v (.one (.slo 2)), .v (.one (.int .i64))], [.box [.int .i64, .int .i64, .slv [1] ue], .box [.int .i64, .int .i64, .slv [2] ue], .arr .str [] true]⟩
def gq80.sh3e0 : SK := ⟨[.v (.one (.bptr 0 0)), .v (.one (.bptr 1 0)), .v (.one (.slo 2)), .v (.one (.int .i64))], [.box [.int .i64, .int .i64, .slv [1] ue], .box [.int .i64, .int .i64, .slv [2] ue], .arr .str [] true]⟩
def gq80.ko3 : Ex → List u16 × List Nat
 | .nrm => ([], [])
 | .ret => ([], [])
 | .ext i => cond (Nat.beq i 0) ([], [2, 3, 5, 6]) ([], [])
def gq80.G3 (n : Nat) (R : Type) (t : gq80.sh3.T) (K : Ex → Kp → Option R) : Option R := gq80.l3 (fun y0 y1 y2 y3 y4 y5 y6 y7 => K (.ext 0) (SK.enc gq80.sh3e0 (((), (), (), y0, ()), ((y1, y2, y3, ()), (y4, y5, y6, ()), y7, ())))) n t.1.2.2.2.1 t.2.1.1 t.2.1.2.1 t.2.1.2.2.1 t.2.2.1.1 t.2.2.1.2.1 t.2.2.1.2.2.1 t.2.2.2.1
def gq80.S3 : Sum := ⟨([], [2, 3, 5, 6]), sumF gq80.sh3 (gq80.G3 fuel), gq80.ko3⟩
theorem gq80.ok3 (hE : EOk Tryz.prog (gq80.E)) : u15 Tryz.prog gq80.E (cB (cL (cR (cR (cR (cR (u5 Tryz.f80))))))) (gq80.S3) := by
 have hh : HintOk Tryz.prog gq80.E (cB (cB (cL (cR (cR (cR (cR (u5 Tryz.f80)))))))) (.a) := HintOk.n1 (Q := True) (by kernel_rfl) trivial
 have h := u2a (kin := ([], [2, 3, 5, 6])) (kout := gq80.ko3) (sh := gq80.sh3) (F := gq80.G3) (u1a (hE.gv _)) (by kernel_rfl) hh (fun _ _ _ => rfl) (fun n R t K => by kernel_rfl) fuel
 exact HintOk.n1 (c := (cB (cL (cR (cR (cR (cR (u5 Tryz.f80)))))))) (h := .s (gq80.S3)) (P := Tryz.prog) (E := gq80.E) (by kernel_rfl) h
def gq80.sh4 : SK := ⟨[.v (.one (.bptr 0 0)), .v (.one (.bptr 1 0)), .v (.one (.slo 2)), .v (.one (.int .i64))], [.box [.int .i64, .int .i64, .slv [1] ue], .box [.int .i64, .int .i64, .slv [2] ue], .arr .str [] true]⟩
def gq80.sh4n : SK := ⟨[.v (.one (.bptr 0 0)), .v (.one (.slo 1)), .v (.one (.int .i64))], [.box [.int .i64, .int .i64, .slv [2] ue], .arr .str [] true]⟩
def gq80.ko4 : Ex → List u16 × List Nat
 | .nrm => ([], [3, 5, 6])
 | .ret => ([], [])
 | .ext i => ([], [])
def gq80.G4 (R : Type) (t : gq80.sh4.T) (K : Ex → Kp → Option R) : Option R := gq80.j4 (fun y0 y1 y2 y3 y4 => K .nrm (SK.enc gq80.sh4n (((), (), y0, ()), ((y1, y2, y3, ()), y4, ())))) t.1.2.2.2.1 t.2.1.1 t.2.1.2.1 t.2.1.2.2.1 t.2.2.1.1 t.2.2.1.2.1 t.2.2.1.2.2.1 t.2.2.2.1
def gq80.S4 : Sum := ⟨([], [2, 3, 5, 6]), sumF gq80.sh4 (gq80.G4), gq80.ko4⟩
theorem gq80.ok4 (hE : EOk Tryz.prog (gq80.E)) : u15 Tryz.prog gq80.E (cL (cR (cR (cR (cR (cR (u5 Tryz.f80))))))) (gq80.S4) := by
 have hh : HintOk Tryz.prog gq80.E (cL (cR (cR (cR (cR (cR (u5 Tryz.f80))))))) (.a) := HintOk.n1 (Q := True) (by kernel_rfl) trivial
 exact sumS (kin := ([], [2, 3, 5, 6])) (kout := gq80.ko4) (sh := gq80.sh4) (F := gq80.G4) (u1a (hE.gv _)) (by kernel_rfl) hh (fun R t K => by kernel_rfl)
def gq80.sh5 : SK := ⟨[.v (.one (.bptr 0 0)), .v (.one (.slo 1)), .v (.one (.int .i64))], [.box [.int .i64, .int .i64, .slv [2] ue], .arr .str [] true]⟩
def gq80.sh5e2 : SK := ⟨[.v (.one (.slo 0))], [.arr .str [] true]⟩
def gq80.ko5 : Ex → List u16 × List Nat
 | .nrm => ([], [])
 | .ret => ([], [])
 | .ext i => cond (Nat.beq i 2) ([], [5]) ([], [])
def gq80.G5 (n : Nat) (R : Type) (t : gq80.sh5.T) (K : Ex → Kp → Option R) : Option R := gq80.l5 (fun y0 => K (.ext 2) (SK.enc gq80.sh5e2 (((), ()), (y0, ())))) n t.1.2.2.1 t.2.1.1 t.2.1.2.1 t.2.1.2.2.1 t.2.2.1
def gq80.S5 : Sum := ⟨([], [3, 5, 7]), sumF gq80.sh5 (gq80.G5 fuel), gq80.ko5⟩
theorem gq80.ok5 (hE : EOk Tryz.prog (gq80.E)) : u15 Tryz.prog gq80.E (cB (cR (cL (cR (cR (cR (cR (cR (cR (u5 Tryz.f80)))))))))) (gq80.S5) := by
 have hh : HintOk Tryz.prog gq80.E (cB (cB (cR (cL (cR (cR (cR (cR (cR (cR (u5 Tryz.f80))))))))))) (.a) := HintOk.n1 (Q := True) (by kernel_rfl) trivial
 have h := u2a (kin := ([], [3, 5, 7])) (kout := gq80.ko5) (sh := gq80.sh5) (F := gq80.G5) (u1a (hE.gv _)) (by kernel_rfl) hh (fun _ _ _ => rfl) (fun n R t K => by kernel_rfl) fuel
 exact HintOk.n1 (c := (cB (cR (cL (cR (cR (cR (cR (cR (cR (u5 Tryz.f80))))))))))) (h := .s (gq80.S5)) (P := Tryz.prog) (E := gq80.E) (by kernel_rfl) h
theorem gq80.hok (hE : EOk Tryz.prog (gq80.E)) : HintOk Tryz.prog gq80.E (u5 Tryz.f80) (.n (.a) (.n (.a) (.n (.s (gq80.S2)) (.n (.a) (.n (.b (.s (gq80.S3))) (.n (.s (gq80.S4)) (.n (.n (.a) (.b (.s (gq80.S5)))) (.a)))))))) := HintOk.n1 (Q := (True) ∧ ((True) ∧ ((u15 Tryz.prog gq80.E (cL (cR (cR (u5 Tryz.f80)))) (gq80.S2)) ∧ ((True) ∧ ((u15 Tryz.prog gq80.E (cB (cL (cR (cR (cR (cR (u5 Tryz.f80))))))) (gq80.S3)) ∧ ((u15 Tryz.prog gq80.E (cL (cR (cR (cR (cR (cR (u5 Tryz.f80))))))) (gq80.S4)) ∧ (((True) ∧ (u15 Tryz.prog gq80.E (cB (cR (cL (cR (cR (cR (cR (cR (cR (u5 Tryz.f80)))))))))) (gq80.S5))) ∧ (True)))))))) (by kernel_rfl) ⟨trivial, ⟨trivial, ⟨(gq80.ok2 hE), ⟨trivial, ⟨(gq80.ok3 hE), ⟨(gq80.ok4 hE), ⟨⟨trivial, (gq80.ok5 hE)⟩, trivial⟩⟩⟩⟩⟩⟩⟩
theorem gq80.hE : EOk Tryz.prog (gq80.E) := EOk.of ttOk (⟨gq133.fok, ⟨gq134.fok, trivial⟩⟩)
theorem gq80.fok : FOk Tryz.prog 80 gq80.fi :=
 fokS (E := gq80.E) (wy := ⟨[[some (.str, true)]], [[], []], []⟩) (h := (fun gs => .n (.a) (.n (.a) (.n (.s (gq80.S2)) (.n (.a) (.n (.b (.s (gq80.S3))) (.n (.s (gq80.S4)) (.n (.n (.a) (.b (.s (gq80.S5)))) (.a))))))))) (G := fun t g => gq80.F (fun y0 => g y0) t.1.1 t.1.2.1 t.1.2.2.1 t.2.1.1 t.2.1.2.1 t.2.1.2.2.1) (by kernel_rfl) gq80.hE Tryz.func80 (by kernel_rfl) rfl (Nat.le_refl _) (fun t => HintOk.n1 (by kernel_rfl) (gq80.hok gq80.hE)) (fun t g => gq80.N g (fun y0 => some y0) _ _ _ _ _ _) (fun t => by kernel_rfl)
def gq81.F {R : Type} (kk : Int → List (El u4) → Option R) (w94 : Int) (w93 : List (El u4)) : Option R :=
 (gq95 w94 w93).bind fun r =>
 cond ((List.length r : Int) == (0 : Int)) (kk w94 w93) (
  grd (gIx (IntKind.wrap .i64 ((List.length r : Int) - (1 : Int))) (List.length r)) <|
  (gq99 (rdE (.int .i64 : Kd) r (Int.toNat (IntKind.wrap .i64 ((List.length r : Int) - (1 : Int)))))).bind fun r1 =>
  (gq74 w94 w93 (2 : Int) (0 : Int) r1 ByteArray.empty ByteArray.empty []).bind fun r2 =>
  kk r2.1 r2.2.1)
theorem gq81.N (kk : Int → List (El u4) → Option R) (w94 w93) : gq81.F (fun y0 y1 => (kk y0 y1).bind g) w94 w93 = (gq81.F kk w94 w93).bind g := by
 simp only [gq81.F, u6, u9, uc, u7]
def gq81 (w94 : Int) (w93 : List (El u4)) : Option (Int × List (El u4)) := gq81.F (fun y0 y1 => some (y0, y1)) w94 w93
def gq81.out : (Int × List (El u4)) → CRes := fun a => ⟨encL SV.enc [.agg [.int .i64, .slv [0, 1] u4]] ((a.1, a.2, ()), ()), [encL SC.enc [] ()]⟩
def gq81.ps : List PS := [.val [none, some (u4, false)]]
def gq81.sA : List SA := [.v (.agg [.int .i64, .slv [] u4])]
def gq81.fi : FI := FIs gq81.sA (Int × List (El u4)) (fun t => gq81 t.1.1 t.1.2.1) gq81.out gq81.ps
def gq81.E : Env := ⟨tt, lkF [(74, gq74.fi), (95, gq95.fi), (99, gq99.fi)], 26, 0, [], []⟩
theorem gq81.hok (hE : EOk Tryz.prog (gq81.E)) : HintOk Tryz.prog gq81.E (u5 Tryz.f81) (.a) := HintOk.n1 (Q := True) (by kernel_rfl) trivial
theorem gq81.hE : EOk Tryz.prog (gq81.E) := EOk.of ttOk (⟨gq74.fok, ⟨gq95.fok, ⟨gq99.fok, trivial⟩⟩⟩)
theorem gq81.fok : FOk Tryz.prog 81 gq81.fi :=
 fokS (E := gq81.E) (wy := ⟨[[none, some (u4, false)]], [[]], [⟨2, true, 1, .slv [0, 1] u4⟩]⟩) (h := (fun gs => .a)) (G := fun t g => gq81.F (fun y0 y1 => g (y0, y1)) t.1.1 t.1.2.1) (by kernel_rfl) gq81.hE Tryz.func81 (by kernel_rfl) rfl (Nat.le_refl _) (fun t => HintOk.n1 (by kernel_rfl) (gq81.hok gq81.hE)) (fun t g => gq81.N g (fun y0 y1 => some (y0, y1)) _ _) (fun t => by kernel_rfl)
def gq34.l1 {R : Type} (kke0 : Int → List (El u4) → Int → Option R) (kkr : Int → Int → Option R) : Nat → Int → Int → List (El u4) → Int → List ByteArray → Option R
 | 0, _, _, _, _, _ => none
 | n + 1, i, d, d1, i1, list =>
  cond (decide (i < (List.length list : Int))) (
   grd (gIx i (List.length list)) <|
   (gq60 d d1 (rdE (.str : Kd) list (Int.toNat i))).bind fun r =>
   cond (r.2.2.2.2 != (0 : Int)) (kkr r.2.2.2.2 (0 : Int)) (
    grd (gIx i (List.length list)) <|
    (gq62 d d1 r.1 r.2.1 r.2.2.1 r.2.2.2.1 (rdE (.str : Kd) list (Int.toNat i))).bind fun r1 =>
    (gq61 d d1 r1).bind fun r2 =>
    cond (r2.2.2 != (0 : Int)) (kkr r2.2.2 (0 : Int)) (gq34.l1 kke0 kkr n (IntKind.wrap .i64 (i + (1 : Int))) r2.1 r2.2.1 i1 list))) (kke0 d d1 i1)
theorem gq34.l1_nat (kke0 : Int → List (El u4) → Int → Option R) (kkr : Int → Int → Option R) : ∀ n i d d1 i1 list, gq34.l1 (fun y0 y1 y2 => (kke0 y0 y1 y2).bind g) (fun y0 y1 => (kkr y0 y1).bind g) n i d d1 i1 list = (gq34.l1 kke0 kkr n i d d1 i1 list).bind g := by
 intro n
 induction n with
 | zero => intros; rfl
 | succ n ih => intros; simp only [gq34.l1, u6, u9, uc, u7, ih]
def gq34.F {R : Type} (kk : Int → List (El u4) → Int → Option R) (w94 : Int) (w93 : List (El u4)) (wa7 : Int) (wa8 : Int) (wa9 : List (El ue)) (waa : Int) (wab : Int) (wac : List (El ue)) : Option R :=
 (gq73 w94 w93).bind fun r =>
 cond (!r) (kk (0 : Int) [] (1 : Int)) (
  (gq79 wa7 wa8 wa9).bind fun r1 =>
  cond (!r1) (kk (0 : Int) [] (1 : Int)) (
   (gq79 waa wab wac).bind fun r2 =>
   cond (!r2) (kk (0 : Int) [] (1 : Int)) (
    (gq80 wa7 wa8 wa9 waa wab wac).bind fun r3 =>
    gq34.l1 (fun d d1 i =>
     (gq81 d d1).bind fun r4 =>
     (gq50 r4.1 r4.2).bind fun r5 =>
     kk r5.1 r5.2 (0 : Int)) (fun i1 i2 => kk i2 [] i1) fuel (0 : Int) w94 w93 (0 : Int) r3)))
theorem gq34.N (kk : Int → List (El u4) → Int → Option R) (w94 w93 wa7 wa8 wa9 waa wab wac) : gq34.F (fun y0 y1 y2 => (kk y0 y1 y2).bind g) w94 w93 wa7 wa8 wa9 waa wab wac = (gq34.F kk w94 w93 wa7 wa8 wa9 waa wab wac).bind g := by
 simp only [gq34.F, u6, u9, uc, u7, ← gq34.l1_nat]
def gq34 (w94 : Int) (w93 : List (El u4)) (wa7 : Int) (wa8 : Int) (wa9 : List (El ue)) (waa : Int) (wab : Int) (wac : List (El ue)) : Option (Int × List (El u4) × Int) := gq34.F (fun y0 y1 y2 => some (y0, y1, y2)) w94 w93 wa7 wa8 wa9 waa wab wac
def gq34.out : (Int × List (El u4) × Int) → CRes := fun a => ⟨encL SV.enc [.agg [.int .i64, .own [] u4 true], .one (.int .i64)] ((a.1, a.2.1, ()), a.2.2, ()), [encL SC.enc [] (), encL SC.enc [] (), encL SC.enc [] ()]⟩
def gq34.ps : List PS := [.val [none, some (u4, false)], .val [none, none, some (ue, false)], .val [none, none, some (ue, false)]]
def gq34.sA : List SA := [.v (.agg [.int .i64, .slv [] u4]), .v (.agg [.int .i64, .int .i64, .slv [] ue]), .v (.agg [.int .i64, .int .i64, .slv [] ue])]
def gq34.fi : FI := FIs gq34.sA (Int × List (El u4) × Int) (fun t => gq34 t.1.1 t.1.2.1 t.2.1.1 t.2.1.2.1 t.2.1.2.2.1 t.2.2.1.1 t.2.2.1.2.1 t.2.2.1.2.2.1) gq34.out gq34.ps
def gq34.E : Env := ⟨tt, lkF [(50, gq50.fi), (60, gq60.fi), (61, gq61.fi), (62, gq62.fi), (73, gq73.fi), (79, gq79.fi), (80, gq80.fi), (81, gq81.fi)], 69, 0, [], []⟩
def gq34.sh1 : SK := ⟨[.v (.one (.bptr 0 0)), .v (.one (.bptr 1 0)), .v (.one (.slo 2)), .v (.one (.int .i64))], [.box [.int .i64, .slv [0, 1] u4], .box [.int .i64, .nil], .arr .str [] true]⟩
def gq34.sh1e0 : SK := ⟨[.v (.one (.bptr 0 0)), .v (.one (.bptr 1 0))], [.box [.int .i64, .slv [0, 1] u4], .box [.int .i64, .nil]]⟩
def gq34.sh1r : SK := ⟨[.v (.one (.bptr 0 0)), .v (.one (.int .i64))], [.box [.int .i64, .nil]]⟩
def gq34.ko1 : Ex → List u16 × List Nat
 | .nrm => ([], [])
 | .ret => ([], [6, 7])
 | .ext i => cond (Nat.beq i 0) ([], [3, 6]) ([], [])
def gq34.G1 (n : Nat) (R : Type) (t : gq34.sh1.T) (K : Ex → Kp → Option R) : Option R := gq34.l1 (fun y0 y1 y2 => K (.ext 0) (SK.enc gq34.sh1e0 (((), (), ()), ((y0, y1, ()), (y2, (), ()), ())))) (fun y0 y1 => K .ret (SK.enc gq34.sh1r (((), y0, ()), ((y1, (), ()), ())))) n t.1.2.2.2.1 t.2.1.1 t.2.1.2.1 t.2.2.1.1 t.2.2.2.1
def gq34.S1 : Sum := ⟨([⟨3, true, 1, .slv [0, 1] u4⟩], [3, 6, 8, 9]), sumF gq34.sh1 (gq34.G1 fuel), gq34.ko1⟩
theorem gq34.ok1 (hE : EOk Tryz.prog (gq34.E)) : u15 Tryz.prog gq34.E (cB (cR (cL (cR (cR (cR (u5 Tryz.f34))))))) (gq34.S1) := by
 have hh : HintOk Tryz.prog gq34.E (cB (cB (cR (cL (cR (cR (cR (u5 Tryz.f34)))))))) (.a) := HintOk.n1 (Q := True) (by kernel_rfl) trivial
 have h := u2a (kin := ([⟨3, true, 1, .slv [0, 1] u4⟩], [3, 6, 8, 9])) (kout := gq34.ko1) (sh := gq34.sh1) (F := gq34.G1) (u1a (hE.gv _)) (by kernel_rfl) hh (fun _ _ _ => rfl) (fun n R t K => by kernel_rfl) fuel
 exact HintOk.n1 (c := (cB (cR (cL (cR (cR (cR (u5 Tryz.f34)))))))) (h := .s (gq34.S1)) (P := Tryz.prog) (E := gq34.E) (by kernel_rfl) h
theorem gq34.hok (hE : EOk Tryz.prog (gq34.E)) : HintOk Tryz.prog gq34.E (u5 Tryz.f34) (.n (.a) (.n (.a) (.n (.a) (.n (.n (.a) (.b (.s (gq34.S1)))) (.a))))) := HintOk.n1 (Q := (True) ∧ ((True) ∧ ((True) ∧ (((True) ∧ (u15 Tryz.prog gq34.E (cB (cR (cL (cR (cR (cR (u5 Tryz.f34))))))) (gq34.S1))) ∧ (True))))) (by kernel_rfl) ⟨trivial, ⟨trivial, ⟨trivial, ⟨⟨trivial, (gq34.ok1 hE)⟩, trivial⟩⟩⟩⟩
theorem gq34.hE : EOk Tryz.prog (gq34.E) := EOk.of ttOk (⟨gq50.fok, ⟨gq60.fok, ⟨gq61.fok, ⟨gq62.fok, ⟨gq73.fok, ⟨gq79.fok, ⟨gq80.fok, ⟨gq81.fok, trivial⟩⟩⟩⟩⟩⟩⟩⟩)
theorem gq34.fok : FOk Tryz.prog 34 gq34.fi :=
 fokS (E := gq34.E) (wy := ⟨[[none, some (u4, true)], [none]], [[], [], []], []⟩) (h := (fun gs => .n (.a) (.n (.a) (.n (.a) (.n (.n (.a) (.b (.s (gq34.S1)))) (.a)))))) (G := fun t g => gq34.F (fun y0 y1 y2 => g (y0, y1, y2)) t.1.1 t.1.2.1 t.2.1.1 t.2.1.2.1 t.2.1.2.2.1 t.2.2.1.1 t.2.2.1.2.1 t.2.2.1.2.2.1) (by kernel_rfl) gq34.hE Tryz.func34 (by kernel_rfl) rfl (Nat.le_refl _) (fun t => HintOk.n1 (by kernel_rfl) (gq34.hok gq34.hE)) (fun t g => gq34.N g (fun y0 y1 y2 => some (y0, y1, y2)) _ _ _ _ _ _ _ _) (fun t => by kernel_rfl)
def gq63.F {R : Type} (kk : List Int → Int → Int → Option R) (code : List Int) : Option R :=
 grd (gNz (1000 : Int)) <|
 kk code (0 : Int) (Int.tmod (List.length code : Int) (1000 : Int))
theorem gq63.N (kk : List Int → Int → Int → Option R) (code) : gq63.F (fun y0 y1 y2 => (kk y0 y1 y2).bind g) code = (gq63.F kk code).bind g := by
 simp only [gq63.F, u6, u9, uc, u7]
def gq63 (code : List Int) : Option (List Int × Int × Int) := gq63.F (fun y0 y1 y2 => some (y0, y1, y2)) code
def gq63.out : (List Int × Int × Int) → CRes := fun a => ⟨encL SV.enc [.pbx [.slv [1] (.int .u8), .int .i64, .int .i64]] ((a.1, a.2.1, a.2.2, ()), ()), [encL SC.enc [] ()]⟩
def gq63.ps : List PS := [.val [some ((.int .u8), false)]]
def gq63.sA : List SA := [.v (.one (.slv [] (.int .u8)))]
def gq63.fi : FI := FIs gq63.sA (List Int × Int × Int) (fun t => gq63 t.1) gq63.out gq63.ps
def gq63.E : Env := ⟨tt, lkF [], 9, 0, [], []⟩
theorem gq63.hok (hE : EOk Tryz.prog (gq63.E)) : HintOk Tryz.prog gq63.E (u5 Tryz.f63) (.a) := HintOk.n1 (Q := True) (by kernel_rfl) trivial
theorem gq63.hE : EOk Tryz.prog (gq63.E) := EOk.of ttOk (trivial)
theorem gq63.fok : FOk Tryz.prog 63 gq63.fi :=
 fokS (E := gq63.E) (wy := ⟨[[some ((.int .u8), false), none, none]], [[]], []⟩) (h := (fun gs => .a)) (G := fun t g => gq63.F (fun y0 y1 y2 => g (y0, y1, y2)) t.1) (by kernel_rfl) gq63.hE Tryz.func63 (by kernel_rfl) rfl (Nat.le_refl _) (fun t => HintOk.n1 (by kernel_rfl) (gq63.hok gq63.hE)) (fun t g => gq63.N g (fun y0 y1 y2 => some (y0, y1, y2)) _) (fun t => by kernel_rfl)
def gq161.F {R : Type} (kk : Int → List Int → Int → Int → Option R) (w96 : List Int) (w95 : Int) (w97 : Int) : Option R :=
 cond (decide ((IntKind.wrap .i64 (w95 + (1 : Int))) ≤ (List.length w96 : Int))) (
  grd (gIx (IntKind.wrap .i64 ((IntKind.wrap .i64 (w95 + (1 : Int))) - (1 : Int))) (List.length w96)) <|
  grd (gNz (2147483648 : Int)) <|
  grd (gIx (IntKind.wrap .i64 ((IntKind.wrap .i64 (w95 + (1 : Int))) - (1 : Int))) (List.length w96)) <|
  kk (IntKind.wrap .i64 (rdE (.int .u8 : Kd) w96 (Int.toNat (IntKind.wrap .i64 ((IntKind.wrap .i64 (w95 + (1 : Int))) - (1 : Int)))))) w96 (IntKind.wrap .i64 (w95 + (1 : Int))) (Int.tmod (IntKind.wrap .i64 ((IntKind.wrap .i64 ((IntKind.wrap .i64 (w97 * (31 : Int))) + (IntKind.wrap .i64 (rdE (.int .u8 : Kd) w96 (Int.toNat (IntKind.wrap .i64 ((IntKind.wrap .i64 (w95 + (1 : Int))) - (1 : Int)))))))) + (7 : Int))) (2147483648 : Int))) (
  cond (decide ((IntKind.wrap .i64 (w95 + (1 : Int))) > (3000 : Int))) (kk (0 : Int) w96 (IntKind.wrap .i64 (w95 + (1 : Int))) w97) (
   grd (gNz (2147483648 : Int)) <|
   grd (gNz (65536 : Int)) <|
   grd (gNz (256 : Int)) <|
   kk (Int.tmod (IntKind.wrap .i64 (Int.tdiv (Int.tmod (IntKind.wrap .i64 ((IntKind.wrap .i64 (w97 * (1103515245 : Int))) + (12345 : Int))) (2147483648 : Int)) (65536 : Int))) (256 : Int)) w96 (IntKind.wrap .i64 (w95 + (1 : Int))) (Int.tmod (IntKind.wrap .i64 ((IntKind.wrap .i64 (w97 * (1103515245 : Int))) + (12345 : Int))) (2147483648 : Int))))
theorem gq161.N (kk : Int → List Int → Int → Int → Option R) (w96 w95 w97) : gq161.F (fun y0 y1 y2 y3 => (kk y0 y1 y2 y3).bind g) w96 w95 w97 = (gq161.F kk w96 w95 w97).bind g := by
 simp only [gq161.F, u6, u9, uc, u7]
def gq161 (w96 : List Int) (w95 : Int) (w97 : Int) : Option (Int × List Int × Int × Int) := gq161.F (fun y0 y1 y2 y3 => some (y0, y1, y2, y3)) w96 w95 w97
def gq161.out : (Int × List Int × Int × Int) → CRes := fun a => ⟨encL SV.enc [.one (.int .i64)] (a.1, ()), [encL SC.enc [.slv [1] (.int .u8), .int .i64, .int .i64] (a.2.1, a.2.2.1, a.2.2.2, ())]⟩
def gq161.ps : List PS := [.ptr [some ((.int .u8), false), none, none]]
def gq161.sA : List SA := [.ptr [.slv [] (.int .u8), .int .i64, .int .i64]]
def gq161.fi : FI := FIs gq161.sA (Int × List Int × Int × Int) (fun t => gq161 t.1.1 t.1.2.1 t.1.2.2.1) gq161.out gq161.ps
def gq161.E : Env := ⟨tt, lkF [], 76, 1, [], []⟩
theorem gq161.hok (hE : EOk Tryz.prog (gq161.E)) : HintOk Tryz.prog gq161.E (u5 Tryz.f161) (.a) := HintOk.n1 (Q := True) (by kernel_rfl) trivial
theorem gq161.hE : EOk Tryz.prog (gq161.E) := EOk.of ttOk (trivial)
theorem gq161.fok : FOk Tryz.prog 161 gq161.fi :=
 fokS (E := gq161.E) (wy := ⟨[[none]], [[some ((.int .u8), false), none, none]], []⟩) (h := (fun gs => .a)) (G := fun t g => gq161.F (fun y0 y1 y2 y3 => g (y0, y1, y2, y3)) t.1.1 t.1.2.1 t.1.2.2.1) (by kernel_rfl) gq161.hE Tryz.func161 (by kernel_rfl) rfl (Nat.le_refl _) (fun t => HintOk.n1 (by kernel_rfl) (gq161.hok gq161.hE)) (fun t g => gq161.N g (fun y0 y1 y2 y3 => some (y0, y1, y2, y3)) _ _ _) (fun t => by kernel_rfl)
def gq140.F {R : Type} (kk : Int → List Int → Int → Int → Option R) (w96 : List Int) (w95 : Int) (w97 : Int) (n_ : Int) : Option R :=
 cond (decide (n_ ≤ (1 : Int))) (kk (0 : Int) w96 w95 w97) (
  cond (decide (n_ ≤ (256 : Int))) (
   (gq161 w96 w95 w97).bind fun r =>
   grd (gNz n_) <|
   kk (Int.tmod r.1 n_) r.2.1 r.2.2.1 r.2.2.2) (
   (gq161 w96 w95 w97).bind fun r1 =>
   (gq161 r1.2.1 r1.2.2.1 r1.2.2.2).bind fun r2 =>
   (gq161 r2.2.1 r2.2.2.1 r2.2.2.2).bind fun r3 =>
   grd (gNz n_) <|
   kk (Int.tmod (IntKind.wrap .i64 ((IntKind.wrap .i64 ((IntKind.wrap .i64 (r1.1 * (65536 : Int))) + (IntKind.wrap .i64 (r2.1 * (256 : Int))))) + r3.1)) n_) r3.2.1 r3.2.2.1 r3.2.2.2))
theorem gq140.N (kk : Int → List Int → Int → Int → Option R) (w96 w95 w97 n_) : gq140.F (fun y0 y1 y2 y3 => (kk y0 y1 y2 y3).bind g) w96 w95 w97 n_ = (gq140.F kk w96 w95 w97 n_).bind g := by
 simp only [gq140.F, u6, u9, uc, u7]
def gq140 (w96 : List Int) (w95 : Int) (w97 : Int) (n_ : Int) : Option (Int × List Int × Int × Int) := gq140.F (fun y0 y1 y2 y3 => some (y0, y1, y2, y3)) w96 w95 w97 n_
def gq140.out : (Int × List Int × Int × Int) → CRes := fun a => ⟨encL SV.enc [.one (.int .i64)] (a.1, ()), [encL SC.enc [.slv [1] (.int .u8), .int .i64, .int .i64] (a.2.1, a.2.2.1, a.2.2.2, ()), encL SC.enc [] ()]⟩
def gq140.ps : List PS := [.ptr [some ((.int .u8), false), none, none], .val [none]]
def gq140.sA : List SA := [.ptr [.slv [] (.int .u8), .int .i64, .int .i64], .v (.one (.int .i64))]
def gq140.fi : FI := FIs gq140.sA (Int × List Int × Int × Int) (fun t => gq140 t.1.1 t.1.2.1 t.1.2.2.1 t.2.1) gq140.out gq140.ps
def gq140.E : Env := ⟨tt, lkF [(161, gq161.fi)], 31, 1, [], []⟩
theorem gq140.hok (hE : EOk Tryz.prog (gq140.E)) : HintOk Tryz.prog gq140.E (u5 Tryz.f140) (.a) := HintOk.n1 (Q := True) (by kernel_rfl) trivial
theorem gq140.hE : EOk Tryz.prog (gq140.E) := EOk.of ttOk (⟨gq161.fok, trivial⟩)
theorem gq140.fok : FOk Tryz.prog 140 gq140.fi :=
 fokS (E := gq140.E) (wy := ⟨[[none]], [[some ((.int .u8), false), none, none], []], []⟩) (h := (fun gs => .a)) (G := fun t g => gq140.F (fun y0 y1 y2 y3 => g (y0, y1, y2, y3)) t.1.1 t.1.2.1 t.1.2.2.1 t.2.1) (by kernel_rfl) gq140.hE Tryz.func140 (by kernel_rfl) rfl (Nat.le_refl _) (fun t => HintOk.n1 (by kernel_rfl) (gq140.hok gq140.hE)) (fun t g => gq140.N g (fun y0 y1 y2 y3 => some (y0, y1, y2, y3)) _ _ _ _) (fun t => by kernel_rfl)
def gq112.F {R : Type} (kk : ByteArray → List Int → Int → Int → Option R) (w96 : List Int) (w95 : Int) (w97 : Int) (list : List ByteArray) : Option R :=
 cond ((List.length list : Int) == (0 : Int)) (kk ByteArray.empty w96 w95 w97) (
  (gq140 w96 w95 w97 (List.length list : Int)).bind fun r =>
  grd (gIx r.1 (List.length list)) <|
  kk (rdE (.str : Kd) list (Int.toNat r.1)) r.2.1 r.2.2.1 r.2.2.2)
theorem gq112.N (kk : ByteArray → List Int → Int → Int → Option R) (w96 w95 w97 list) : gq112.F (fun y0 y1 y2 y3 => (kk y0 y1 y2 y3).bind g) w96 w95 w97 list = (gq112.F kk w96 w95 w97 list).bind g := by
 simp only [gq112.F, u6, u9, uc, u7]
def gq112 (w96 : List Int) (w95 : Int) (w97 : Int) (list : List ByteArray) : Option (ByteArray × List Int × Int × Int) := gq112.F (fun y0 y1 y2 y3 => some (y0, y1, y2, y3)) w96 w95 w97 list
def gq112.out : (ByteArray × List Int × Int × Int) → CRes := fun a => ⟨encL SV.enc [.one (.str)] (a.1, ()), [encL SC.enc [.slv [1] (.int .u8), .int .i64, .int .i64] (a.2.1, a.2.2.1, a.2.2.2, ()), encL SC.enc [] ()]⟩
def gq112.ps : List PS := [.ptr [some ((.int .u8), false), none, none], .val [some (.str, false)]]
def gq112.sA : List SA := [.ptr [.slv [] (.int .u8), .int .i64, .int .i64], .v (.one (.slv [] .str))]
def gq112.fi : FI := FIs gq112.sA (ByteArray × List Int × Int × Int) (fun t => gq112 t.1.1 t.1.2.1 t.1.2.2.1 t.2.1) gq112.out gq112.ps
def gq112.E : Env := ⟨tt, lkF [(140, gq140.fi)], 15, 1, [], []⟩
theorem gq112.hok (hE : EOk Tryz.prog (gq112.E)) : HintOk Tryz.prog gq112.E (u5 Tryz.f112) (.a) := HintOk.n1 (Q := True) (by kernel_rfl) trivial
theorem gq112.hE : EOk Tryz.prog (gq112.E) := EOk.of ttOk (⟨gq140.fok, trivial⟩)
theorem gq112.fok : FOk Tryz.prog 112 gq112.fi :=
 fokS (E := gq112.E) (wy := ⟨[[none]], [[some ((.int .u8), false), none, none], []], []⟩) (h := (fun gs => .a)) (G := fun t g => gq112.F (fun y0 y1 y2 y3 => g (y0, y1, y2, y3)) t.1.1 t.1.2.1 t.1.2.2.1 t.2.1) (by kernel_rfl) gq112.hE Tryz.func112 (by kernel_rfl) rfl (Nat.le_refl _) (fun t => HintOk.n1 (by kernel_rfl) (gq112.hok gq112.hE)) (fun t g => gq112.N g (fun y0 y1 y2 y3 => some (y0, y1, y2, y3)) _ _ _ _) (fun t => by kernel_rfl)
def gq162.F {R : Type} (kk : List Int → Option R) (wb5 : Int) (wbd : Int) (wbe : Int) (wb3 : ByteArray) (wb7 : ByteArray) : Option R :=
 (gq150 wbd).bind fun r =>
 grd (gRm (((List.length [IntKind.wrap .u8 wb5]) + (List.length r)) * 1)) <|
 (gq150 wbe).bind fun r1 =>
 grd (gRm (((List.length ([IntKind.wrap .u8 wb5] ++ r)) + (List.length r1)) * 1)) <|
 grd (gRm (((List.length (([IntKind.wrap .u8 wb5] ++ r) ++ r1)) + (List.length [IntKind.wrap .u8 (ByteArray.size wb3 : Int)])) * 1)) <|
 grd (gRm (((List.length ((([IntKind.wrap .u8 wb5] ++ r) ++ r1) ++ [IntKind.wrap .u8 (ByteArray.size wb3 : Int)])) + (List.length (bytesL wb3))) * 1)) <|
 grd (gRm (((List.length (((([IntKind.wrap .u8 wb5] ++ r) ++ r1) ++ [IntKind.wrap .u8 (ByteArray.size wb3 : Int)]) ++ (bytesL wb3))) + (List.length [IntKind.wrap .u8 (ByteArray.size wb7 : Int)])) * 1)) <|
 grd (gRm (((List.length ((((([IntKind.wrap .u8 wb5] ++ r) ++ r1) ++ [IntKind.wrap .u8 (ByteArray.size wb3 : Int)]) ++ (bytesL wb3)) ++ [IntKind.wrap .u8 (ByteArray.size wb7 : Int)])) + (List.length (bytesL wb7))) * 1)) <|
 kk (((((([IntKind.wrap .u8 wb5] ++ r) ++ r1) ++ [IntKind.wrap .u8 (ByteArray.size wb3 : Int)]) ++ (bytesL wb3)) ++ [IntKind.wrap .u8 (ByteArray.size wb7 : Int)]) ++ (bytesL wb7))
theorem gq162.N (kk : List Int → Option R) (wb5 wbd wbe wb3 wb7) : gq162.F (fun y0 => (kk y0).bind g) wb5 wbd wbe wb3 wb7 = (gq162.F kk wb5 wbd wbe wb3 wb7).bind g := by
 simp only [gq162.F, u6, u9, uc, u7]
def gq162 (wb5 : Int) (wbd : Int) (wbe : Int) (wb3 : ByteArray) (wb7 : ByteArray) : Option (List Int) := gq162.F (fun y0 => some y0) wb5 wbd wbe wb3 wb7
def gq162.out : (List Int) → CRes := fun a => ⟨encL SV.enc [.one (.own [] (.int .u8) true)] (a, ()), [encL SC.enc [] ()]⟩
def gq162.ps : List PS := [.val [none, none, none, none, none]]
def gq162.sA : List SA := [.v (.agg [.int .i64, .int .i64, .int .i64, .str, .str])]
def gq162.fi : FI := FIs gq162.sA (List Int) (fun t => gq162 t.1.1 t.1.2.1 t.1.2.2.1 t.1.2.2.2.1 t.1.2.2.2.2.1) gq162.out gq162.ps
def gq162.E : Env := ⟨tt, lkF [(150, gq150.fi)], 37, 0, [], []⟩
theorem gq162.hok (hE : EOk Tryz.prog (gq162.E)) : HintOk Tryz.prog gq162.E (u5 Tryz.f162) (.a) := HintOk.n1 (Q := True) (by kernel_rfl) trivial
theorem gq162.hE : EOk Tryz.prog (gq162.E) := EOk.of ttOk (⟨gq150.fok, trivial⟩)
theorem gq162.fok : FOk Tryz.prog 162 gq162.fi :=
 fokS (E := gq162.E) (wy := ⟨[[some ((.int .u8), true)]], [[]], []⟩) (h := (fun gs => .a)) (G := fun t g => gq162.F (fun y0 => g y0) t.1.1 t.1.2.1 t.1.2.2.1 t.1.2.2.2.1 t.1.2.2.2.2.1) (by kernel_rfl) gq162.hE Tryz.func162 (by kernel_rfl) rfl (Nat.le_refl _) (fun t => HintOk.n1 (by kernel_rfl) (gq162.hok gq162.hE)) (fun t g => gq162.N g (fun y0 => some y0) _ _ _ _ _) (fun t => by kernel_rfl)
def gq179.F {R : Type} (kk : ByteArray → List Int → Int → Int → Option R) (w96 : List Int) (w95 : Int) (w97 : Int) : Option R :=
 (gq112 w96 w95 w97 [(⟨#[97]⟩ : ByteArray), (⟨#[98]⟩ : ByteArray), (⟨#[99]⟩ : ByteArray), (⟨#[97, 108, 112, 104, 97]⟩ : ByteArray), (⟨#[98, 101, 116, 97]⟩ : ByteArray)]).bind fun r =>
 kk r.1 r.2.1 r.2.2.1 r.2.2.2
theorem gq179.N (kk : ByteArray → List Int → Int → Int → Option R) (w96 w95 w97) : gq179.F (fun y0 y1 y2 y3 => (kk y0 y1 y2 y3).bind g) w96 w95 w97 = (gq179.F kk w96 w95 w97).bind g := by
 simp only [gq179.F, u6, u9, uc, u7]
def gq179 (w96 : List Int) (w95 : Int) (w97 : Int) : Option (ByteArray × List Int × Int × Int) := gq179.F (fun y0 y1 y2 y3 => some (y0, y1, y2, y3)) w96 w95 w97
def gq179.out : (ByteArray × List Int × Int × Int) → CRes := fun a => ⟨encL SV.enc [.one (.str)] (a.1, ()), [encL SC.enc [.slv [1] (.int .u8), .int .i64, .int .i64] (a.2.1, a.2.2.1, a.2.2.2, ())]⟩
def gq179.ps : List PS := [.ptr [some ((.int .u8), false), none, none]]
def gq179.sA : List SA := [.ptr [.slv [] (.int .u8), .int .i64, .int .i64]]
def gq179.fi : FI := FIs gq179.sA (ByteArray × List Int × Int × Int) (fun t => gq179 t.1.1 t.1.2.1 t.1.2.2.1) gq179.out gq179.ps
def gq179.E : Env := ⟨tt, lkF [(112, gq112.fi)], 6, 1, [], []⟩
theorem gq179.hok (hE : EOk Tryz.prog (gq179.E)) : HintOk Tryz.prog gq179.E (u5 Tryz.f179) (.a) := HintOk.n1 (Q := True) (by kernel_rfl) trivial
theorem gq179.hE : EOk Tryz.prog (gq179.E) := EOk.of ttOk (⟨gq112.fok, trivial⟩)
theorem gq179.fok : FOk Tryz.prog 179 gq179.fi :=
 fokS (E := gq179.E) (wy := ⟨[[none]], [[some ((.int .u8), false), none, none]], []⟩) (h := (fun gs => .a)) (G := fun t g => gq179.F (fun y0 y1 y2 y3 => g (y0, y1, y2, y3)) t.1.1 t.1.2.1 t.1.2.2.1) (by kernel_rfl) gq179.hE Tryz.func179 (by kernel_rfl) rfl (Nat.le_refl _) (fun t => HintOk.n1 (by kernel_rfl) (gq179.hok gq179.hE)) (fun t g => gq179.N g (fun y0 y1 y2 y3 => some (y0, y1, y2, y3)) _ _ _) (fun t => by kernel_rfl)
def gq180.F {R : Type} (kk : ByteArray → List Int → Int → Int → Option R) (w96 : List Int) (w95 : Int) (w97 : Int) : Option R :=
 (gq112 w96 w95 w97 [ByteArray.empty, (⟨#[49]⟩ : ByteArray), (⟨#[50]⟩ : ByteArray), (⟨#[120]⟩ : ByteArray), (⟨#[108, 111, 110, 103, 101, 114, 32, 118, 97, 108, 117, 101]⟩ : ByteArray)]).bind fun r =>
 kk r.1 r.2.1 r.2.2.1 r.2.2.2
theorem gq180.N (kk : ByteArray → List Int → Int → Int → Option R) (w96 w95 w97) : gq180.F (fun y0 y1 y2 y3 => (kk y0 y1 y2 y3).bind g) w96 w95 w97 = (gq180.F kk w96 w95 w97).bind g := by
 simp only [gq180.F, u6, u9, uc, u7]
def gq180 (w96 : List Int) (w95 : Int) (w97 : Int) : Option (ByteArray × List Int × Int × Int) := gq180.F (fun y0 y1 y2 y3 => some (y0, y1, y2, y3)) w96 w95 w97
def gq180.out : (ByteArray × List Int × Int × Int) → CRes := fun a => ⟨encL SV.enc [.one (.str)] (a.1, ()), [encL SC.enc [.slv [1] (.int .u8), .int .i64, .int .i64] (a.2.1, a.2.2.1, a.2.2.2, ())]⟩
def gq180.ps : List PS := [.ptr [some ((.int .u8), false), none, none]]
def gq180.sA : List SA := [.ptr [.slv [] (.int .u8), .int .i64, .int .i64]]
def gq180.fi : FI := FIs gq180.sA (ByteArray × List Int × Int × Int) (fun t => gq180 t.1.1 t.1.2.1 t.1.2.2.1) gq180.out gq180.ps
def gq180.E : Env := ⟨tt, lkF [(112, gq112.fi)], 6, 1, [], []⟩
theorem gq180.hok (hE : EOk Tryz.prog (gq180.E)) : HintOk Tryz.prog gq180.E (u5 Tryz.f180) (.a) := HintOk.n1 (Q := True) (by kernel_rfl) trivial
theorem gq180.hE : EOk Tryz.prog (gq180.E) := EOk.of ttOk (⟨gq112.fok, trivial⟩)
theorem gq180.fok : FOk Tryz.prog 180 gq180.fi :=
 fokS (E := gq180.E) (wy := ⟨[[none]], [[some ((.int .u8), false), none, none]], []⟩) (h := (fun gs => .a)) (G := fun t g => gq180.F (fun y0 y1 y2 y3 => g (y0, y1, y2, y3)) t.1.1 t.1.2.1 t.1.2.2.1) (by kernel_rfl) gq180.hE Tryz.func180 (by kernel_rfl) rfl (Nat.le_refl _) (fun t => HintOk.n1 (by kernel_rfl) (gq180.hok gq180.hE)) (fun t g => gq180.N g (fun y0 y1 y2 y3 => some (y0, y1, y2, y3)) _ _ _) (fun t => by kernel_rfl)
def gq181.F {R : Type} (kk : Bool → List Int → Int → Int → Option R) (w96 : List Int) (w95 : Int) (w97 : Int) (n_ : Int) : Option R :=
 (gq140 w96 w95 w97 n_).bind fun r =>
 kk (r.1 == (IntKind.wrap .i64 (n_ - (1 : Int)))) r.2.1 r.2.2.1 r.2.2.2
theorem gq181.N (kk : Bool → List Int → Int → Int → Option R) (w96 w95 w97 n_) : gq181.F (fun y0 y1 y2 y3 => (kk y0 y1 y2 y3).bind g) w96 w95 w97 n_ = (gq181.F kk w96 w95 w97 n_).bind g := by
 simp only [gq181.F, u6, u9, uc, u7]
def gq181 (w96 : List Int) (w95 : Int) (w97 : Int) (n_ : Int) : Option (Bool × List Int × Int × Int) := gq181.F (fun y0 y1 y2 y3 => some (y0, y1, y2, y3)) w96 w95 w97 n_
def gq181.out : (Bool × List Int × Int × Int) → CRes := fun a => ⟨encL SV.enc [.one (.bool)] (a.1, ()), [encL SC.enc [.slv [1] (.int .u8), .int .i64, .int .i64] (a.2.1, a.2.2.1, a.2.2.2, ()), encL SC.enc [] ()]⟩
def gq181.ps : List PS := [.ptr [some ((.int .u8), false), none, none], .val [none]]
def gq181.sA : List SA := [.ptr [.slv [] (.int .u8), .int .i64, .int .i64], .v (.one (.int .i64))]
def gq181.fi : FI := FIs gq181.sA (Bool × List Int × Int × Int) (fun t => gq181 t.1.1 t.1.2.1 t.1.2.2.1 t.2.1) gq181.out gq181.ps
def gq181.E : Env := ⟨tt, lkF [(140, gq140.fi)], 11, 1, [], []⟩
theorem gq181.hok (hE : EOk Tryz.prog (gq181.E)) : HintOk Tryz.prog gq181.E (u5 Tryz.f181) (.a) := HintOk.n1 (Q := True) (by kernel_rfl) trivial
theorem gq181.hE : EOk Tryz.prog (gq181.E) := EOk.of ttOk (⟨gq140.fok, trivial⟩)
theorem gq181.fok : FOk Tryz.prog 181 gq181.fi :=
 fokS (E := gq181.E) (wy := ⟨[[none]], [[some ((.int .u8), false), none, none], []], []⟩) (h := (fun gs => .a)) (G := fun t g => gq181.F (fun y0 y1 y2 y3 => g (y0, y1, y2, y3)) t.1.1 t.1.2.1 t.1.2.2.1 t.2.1) (by kernel_rfl) gq181.hE Tryz.func181 (by kernel_rfl) rfl (Nat.le_refl _) (fun t => HintOk.n1 (by kernel_rfl) (gq181.hok gq181.hE)) (fun t g => gq181.N g (fun y0 y1 y2 y3 => some (y0, y1, y2, y3)) _ _ _ _) (fun t => by kernel_rfl)
def gq163.j1 {R : Type} (kkn : List Int → Int → Int → Int → Int → Int → ByteArray → ByteArray → Int → Int → Int → ByteArray → ByteArray → Option R) (s : List Int) (s1 : Int) (s2 : Int) (i : Int) (i1 : Int) (i2 : Int) (s3 : ByteArray) (s4 : ByteArray) (c : Int) (c1 : Int) (c2 : Int) (c3 : ByteArray) (c4 : ByteArray) : Option R :=
 cond (c == (3 : Int)) (kkn s s1 s2 i i1 i2 s3 s4 c c1 c2 c3 ByteArray.empty) (kkn s s1 s2 i i1 i2 s3 s4 c c1 c2 c3 c4)
theorem gq163.j1_nat (kkn : List Int → Int → Int → Int → Int → Int → ByteArray → ByteArray → Int → Int → Int → ByteArray → ByteArray → Option R) (s s1 s2 i i1 i2 s3 s4 c c1 c2 c3 c4) : gq163.j1 (fun y0 y1 y2 y3 y4 y5 y6 y7 y8 y9 y10 y11 y12 => (kkn y0 y1 y2 y3 y4 y5 y6 y7 y8 y9 y10 y11 y12).bind g) s s1 s2 i i1 i2 s3 s4 c c1 c2 c3 c4 = (gq163.j1 kkn s s1 s2 i i1 i2 s3 s4 c c1 c2 c3 c4).bind g := by
 simp only [gq163.j1, u6, u9, uc, u7]
def gq163.F {R : Type} (kk : Int → Int → Int → ByteArray → ByteArray → List Int → Int → Int → Option R) (w96 : List Int) (w95 : Int) (w97 : Int) : Option R :=
 (gq140 w96 w95 w97 (5 : Int)).bind fun r =>
 grd (gIx r.1 (List.length [(1 : Int), (1 : Int), (2 : Int), (2 : Int), (3 : Int)])) <|
 (gq140 r.2.1 r.2.2.1 r.2.2.2 (3 : Int)).bind fun r1 =>
 (gq140 r1.2.1 r1.2.2.1 r1.2.2.2 (5 : Int)).bind fun r2 =>
 (gq179 r2.2.1 r2.2.2.1 r2.2.2.2).bind fun r3 =>
 (gq180 r3.2.1 r3.2.2.1 r3.2.2.2).bind fun r4 =>
 gq163.j1 (fun s s1 s2 i i1 i2 s3 s4 c c1 c2 c3 c4 =>
  (gq181 s s1 s2 (4 : Int)).bind fun r5 =>
  cond (r5.1) (
   (gq140 r5.2.1 r5.2.2.1 r5.2.2.2 (2 : Int)).bind fun r6 =>
   (gq140 r6.2.1 r6.2.2.1 r6.2.2.2 (3 : Int)).bind fun r7 =>
   kk (IntKind.wrap .i64 ((4 : Int) + r6.1)) (IntKind.wrap .i64 ((1 : Int) + r7.1)) (0 : Int) ByteArray.empty ByteArray.empty r7.2.1 r7.2.2.1 r7.2.2.2) (kk c c1 c2 c3 c4 r5.2.1 r5.2.2.1 r5.2.2.2)) r4.2.1 r4.2.2.1 r4.2.2.2 (0 : Int) (0 : Int) (0 : Int) ByteArray.empty ByteArray.empty (rdE (.int .i64 : Kd) [(1 : Int), (1 : Int), (2 : Int), (2 : Int), (3 : Int)] (Int.toNat r.1)) (IntKind.wrap .i64 ((1 : Int) + r1.1)) (IntKind.wrap .i64 ((1 : Int) + r2.1)) r3.1 r4.1
theorem gq163.N (kk : Int → Int → Int → ByteArray → ByteArray → List Int → Int → Int → Option R) (w96 w95 w97) : gq163.F (fun y0 y1 y2 y3 y4 y5 y6 y7 => (kk y0 y1 y2 y3 y4 y5 y6 y7).bind g) w96 w95 w97 = (gq163.F kk w96 w95 w97).bind g := by
 simp only [gq163.F, u6, u9, uc, u7, ← gq163.j1_nat]
def gq163 (w96 : List Int) (w95 : Int) (w97 : Int) : Option (Int × Int × Int × ByteArray × ByteArray × List Int × Int × Int) := gq163.F (fun y0 y1 y2 y3 y4 y5 y6 y7 => some (y0, y1, y2, y3, y4, y5, y6, y7)) w96 w95 w97
def gq163.out : (Int × Int × Int × ByteArray × ByteArray × List Int × Int × Int) → CRes := fun a => ⟨encL SV.enc [.agg [.int .i64, .int .i64, .int .i64, .str, .str]] ((a.1, a.2.1, a.2.2.1, a.2.2.2.1, a.2.2.2.2.1, ()), ()), [encL SC.enc [.slv [1] (.int .u8), .int .i64, .int .i64] (a.2.2.2.2.2.1, a.2.2.2.2.2.2.1, a.2.2.2.2.2.2.2, ())]⟩
def gq163.ps : List PS := [.ptr [some ((.int .u8), false), none, none]]
def gq163.sA : List SA := [.ptr [.slv [] (.int .u8), .int .i64, .int .i64]]
def gq163.fi : FI := FIs gq163.sA (Int × Int × Int × ByteArray × ByteArray × List Int × Int × Int) (fun t => gq163 t.1.1 t.1.2.1 t.1.2.2.1) gq163.out gq163.ps
def gq163.E : Env := ⟨tt, lkF [(140, gq140.fi), (179, gq179.fi), (180, gq180.fi), (181, gq181.fi)], 34, 1, [], []⟩
def gq163.sh1 : SK := ⟨[.v (.one (.bptr 0 0)), .v (.one (.bptr 1 0)), .v (.one (.bptr 2 0))], [.box [.slv [1] (.int .u8), .int .i64, .int .i64], .box [.int .i64, .int .i64, .int .i64, .str, .str], .box [.int .i64, .int .i64, .int .i64, .str, .str]]⟩
def gq163.sh1n : SK := ⟨[.v (.one (.bptr 0 0)), .v (.one (.bptr 1 0)), .v (.one (.bptr 2 0))], [.box [.slv [1] (.int .u8), .int .i64, .int .i64], .box [.int .i64, .int .i64, .int .i64, .str, .str], .box [.int .i64, .int .i64, .int .i64, .str, .str]]⟩
def gq163.ko1 : Ex → List u16 × List Nat
 | .nrm => ([], [0, 2, 3])
 | .ret => ([], [])
 | .ext i => ([], [])
def gq163.G1 (R : Type) (t : gq163.sh1.T) (K : Ex → Kp → Option R) : Option R := gq163.j1 (fun y0 y1 y2 y3 y4 y5 y6 y7 y8 y9 y10 y11 y12 => K .nrm (SK.enc gq163.sh1n (((), (), (), ()), ((y0, y1, y2, ()), (y3, y4, y5, y6, y7, ()), (y8, y9, y10, y11, y12, ()), ())))) t.2.1.1 t.2.1.2.1 t.2.1.2.2.1 t.2.2.1.1 t.2.2.1.2.1 t.2.2.1.2.2.1 t.2.2.1.2.2.2.1 t.2.2.1.2.2.2.2.1 t.2.2.2.1.1 t.2.2.2.1.2.1 t.2.2.2.1.2.2.1 t.2.2.2.1.2.2.2.1 t.2.2.2.1.2.2.2.2.1
def gq163.S1 : Sum := ⟨([], [0, 2, 3]), sumF gq163.sh1 (gq163.G1), gq163.ko1⟩
theorem gq163.ok1 (hE : EOk Tryz.prog (gq163.E)) : u15 Tryz.prog gq163.E (cL (cR (cR (u5 Tryz.f163)))) (gq163.S1) := by
 have hh : HintOk Tryz.prog gq163.E (cL (cR (cR (u5 Tryz.f163)))) (.a) := HintOk.n1 (Q := True) (by kernel_rfl) trivial
 exact sumS (kin := ([], [0, 2, 3])) (kout := gq163.ko1) (sh := gq163.sh1) (F := gq163.G1) (u1a (hE.gv _)) (by kernel_rfl) hh (fun R t K => by kernel_rfl)
theorem gq163.hok (hE : EOk Tryz.prog (gq163.E)) : HintOk Tryz.prog gq163.E (u5 Tryz.f163) (.n (.a) (.n (.a) (.n (.s (gq163.S1)) (.a)))) := HintOk.n1 (Q := (True) ∧ ((True) ∧ ((u15 Tryz.prog gq163.E (cL (cR (cR (u5 Tryz.f163)))) (gq163.S1)) ∧ (True)))) (by kernel_rfl) ⟨trivial, ⟨trivial, ⟨(gq163.ok1 hE), trivial⟩⟩⟩
theorem gq163.hE : EOk Tryz.prog (gq163.E) := EOk.of ttOk (⟨gq140.fok, ⟨gq179.fok, ⟨gq180.fok, ⟨gq181.fok, trivial⟩⟩⟩⟩)
theorem gq163.fok : FOk Tryz.prog 163 gq163.fi :=
 fokS (E := gq163.E) (wy := ⟨[[none, none, none, none, none]], [[some ((.int .u8), false), none, none]], []⟩) (h := (fun gs => .n (.a) (.n (.a) (.n (.s (gq163.S1)) (.a))))) (G := fun t g => gq163.F (fun y0 y1 y2 y3 y4 y5 y6 y7 => g (y0, y1, y2, y3, y4, y5, y6, y7)) t.1.1 t.1.2.1 t.1.2.2.1) (by kernel_rfl) gq163.hE Tryz.func163 (by kernel_rfl) rfl (Nat.le_refl _) (fun t => HintOk.n1 (by kernel_rfl) (gq163.hok gq163.hE)) (fun t g => gq163.N g (fun y0 y1 y2 y3 y4 y5 y6 y7 => some (y0, y1, y2, y3, y4, y5, y6, y7)) _ _ _) (fun t => by kernel_rfl)
def gq141.F {R : Type} (kk : Int → Int → ByteArray → List Int → Int → Int → Option R) (w96 : List Int) (w95 : Int) (w97 : Int) : Option R :=
 (gq140 w96 w95 w97 (4 : Int)).bind fun r =>
 (gq163 r.2.1 r.2.2.1 r.2.2.2).bind fun r1 =>
 (gq162 r1.1 r1.2.1 r1.2.2.1 r1.2.2.2.1 r1.2.2.2.2.1).bind fun r2 =>
 (gq140 r1.2.2.2.2.2.1 r1.2.2.2.2.2.2.1 r1.2.2.2.2.2.2.2 (6 : Int)).bind fun r3 =>
 cond (r3.1 == (0 : Int)) (kk (IntKind.wrap .i64 ((1 : Int) + r.1)) (0 : Int) ByteArray.empty r3.2.1 r3.2.2.1 r3.2.2.2) (
  cond (r3.1 == (1 : Int)) (
   (gq112 r3.2.1 r3.2.2.1 r3.2.2.2 [(⟨#[0, 1, 2]⟩ : ByteArray), (⟨#[0, 1]⟩ : ByteArray), (⟨#[0, 1, 2, 3]⟩ : ByteArray), (⟨#[4]⟩ : ByteArray)]).bind fun r4 =>
   kk (IntKind.wrap .i64 ((1 : Int) + r.1)) (2 : Int) r4.1 r4.2.1 r4.2.2.1 r4.2.2.2) (kk (IntKind.wrap .i64 ((1 : Int) + r.1)) (1 : Int) (strL r2) r3.2.1 r3.2.2.1 r3.2.2.2))
theorem gq141.N (kk : Int → Int → ByteArray → List Int → Int → Int → Option R) (w96 w95 w97) : gq141.F (fun y0 y1 y2 y3 y4 y5 => (kk y0 y1 y2 y3 y4 y5).bind g) w96 w95 w97 = (gq141.F kk w96 w95 w97).bind g := by
 simp only [gq141.F, u6, u9, uc, u7]
def gq141 (w96 : List Int) (w95 : Int) (w97 : Int) : Option (Int × Int × ByteArray × List Int × Int × Int) := gq141.F (fun y0 y1 y2 y3 y4 y5 => some (y0, y1, y2, y3, y4, y5)) w96 w95 w97
def gq141.out : (Int × Int × ByteArray × List Int × Int × Int) → CRes := fun a => ⟨encL SV.enc [.agg [.int .i64, .int .i64, .str]] ((a.1, a.2.1, a.2.2.1, ()), ()), [encL SC.enc [.slv [1] (.int .u8), .int .i64, .int .i64] (a.2.2.2.1, a.2.2.2.2.1, a.2.2.2.2.2, ())]⟩
def gq141.ps : List PS := [.ptr [some ((.int .u8), false), none, none]]
def gq141.sA : List SA := [.ptr [.slv [] (.int .u8), .int .i64, .int .i64]]
def gq141.fi : FI := FIs gq141.sA (Int × Int × ByteArray × List Int × Int × Int) (fun t => gq141 t.1.1 t.1.2.1 t.1.2.2.1) gq141.out gq141.ps
def gq141.E : Env := ⟨tt, lkF [(112, gq112.fi), (140, gq140.fi), (162, gq162.fi), (163, gq163.fi)], 27, 1, [], []⟩
theorem gq141.hok (hE : EOk Tryz.prog (gq141.E)) : HintOk Tryz.prog gq141.E (u5 Tryz.f141) (.a) := HintOk.n1 (Q := True) (by kernel_rfl) trivial
theorem gq141.hE : EOk Tryz.prog (gq141.E) := EOk.of ttOk (⟨gq112.fok, ⟨gq140.fok, ⟨gq162.fok, ⟨gq163.fok, trivial⟩⟩⟩⟩)
theorem gq141.fok : FOk Tryz.prog 141 gq141.fi :=
 fokS (E := gq141.E) (wy := ⟨[[none, none, none]], [[some ((.int .u8), false), none, none]], []⟩) (h := (fun gs => .a)) (G := fun t g => gq141.F (fun y0 y1 y2 y3 y4 y5 => g (y0, y1, y2, y3, y4, y5)) t.1.1 t.1.2.1 t.1.2.2.1) (by kernel_rfl) gq141.hE Tryz.func141 (by kernel_rfl) rfl (Nat.le_refl _) (fun t => HintOk.n1 (by kernel_rfl) (gq141.hok gq141.hE)) (fun t g => gq141.N g (fun y0 y1 y2 y3 y4 y5 => some (y0, y1, y2, y3, y4, y5)) _ _ _) (fun t => by kernel_rfl)
def gq86.l1 {R : Type} (kke0 : List Int → Int → Int → Int → Int → Int → Int → List (El ue) → Option R) : Nat → Int → List Int → Int → Int → Int → Int → Int → Int → List (El ue) → Option R
 | 0, _, _, _, _, _, _, _, _, _ => none
 | n + 1, i, s, s1, s2, i1, i2, out, out1, l =>
  cond (decide (i > (0 : Int))) (
   (gq141 s s1 s2).bind fun r =>
   grd (gRm (((List.length l) + (List.length [(mx2 (1 : Int) out, (r.2.1, r.2.2.1))])) * 32)) <|
   gq86.l1 kke0 n (IntKind.wrap .i64 (i - (1 : Int))) r.2.2.2.1 r.2.2.2.2.1 r.2.2.2.2.2 i1 i2 (mx2 out (mx2 (1 : Int) out)) out1 (l ++ [(mx2 (1 : Int) out, (r.2.1, r.2.2.1))])) (kke0 s s1 s2 i1 i2 out out1 l)
theorem gq86.l1_nat (kke0 : List Int → Int → Int → Int → Int → Int → Int → List (El ue) → Option R) : ∀ n i s s1 s2 i1 i2 out out1 l, gq86.l1 (fun y0 y1 y2 y3 y4 y5 y6 y7 => (kke0 y0 y1 y2 y3 y4 y5 y6 y7).bind g) n i s s1 s2 i1 i2 out out1 l = (gq86.l1 kke0 n i s s1 s2 i1 i2 out out1 l).bind g := by
 intro n
 induction n with
 | zero => intros; rfl
 | succ n ih => intros; simp only [gq86.l1, u6, u9, uc, u7, ih]
def gq86.F {R : Type} (kk : Int → Int → List (El ue) → List Int → Int → Int → Option R) (w96 : List Int) (w95 : Int) (w97 : Int) (wb4 : Int) (wb6 : Int) (wb2 : List (El ue)) : Option R :=
 (gq140 w96 w95 w97 (2 : Int)).bind fun r =>
 (gq140 r.2.1 r.2.2.1 r.2.2.2 (5 : Int)).bind fun r1 =>
 (gq140 r1.2.1 r1.2.2.1 r1.2.2.2 (mn2 (3 : Int) (IntKind.wrap .i64 ((List.length wb2 : Int) + (1 : Int))))).bind fun r2 =>
 grd (gSl (0 : Int) (IntKind.wrap .i64 ((List.length wb2 : Int) - r2.1)) (List.length wb2)) <|
 grd (gRm (((List.length ([] : List (El ue))) + (List.length (sub wb2 (0 : Int) (IntKind.wrap .i64 ((List.length wb2 : Int) - r2.1))))) * 32)) <|
 (gq140 r2.2.1 r2.2.2.1 r2.2.2.2 (3 : Int)).bind fun r3 =>
 gq86.l1 (fun s s1 s2 i i1 out out1 l => kk out out1 l s s1 s2) fuel r3.1 r3.2.1 r3.2.2.1 r3.2.2.2 (0 : Int) (0 : Int) (IntKind.wrap .i64 (wb4 + r.1)) (IntKind.wrap .i64 (r1.1 - (1 : Int))) (([] : List (El ue)) ++ (sub wb2 (0 : Int) (IntKind.wrap .i64 ((List.length wb2 : Int) - r2.1))))
theorem gq86.N (kk : Int → Int → List (El ue) → List Int → Int → Int → Option R) (w96 w95 w97 wb4 wb6 wb2) : gq86.F (fun y0 y1 y2 y3 y4 y5 => (kk y0 y1 y2 y3 y4 y5).bind g) w96 w95 w97 wb4 wb6 wb2 = (gq86.F kk w96 w95 w97 wb4 wb6 wb2).bind g := by
 simp only [gq86.F, u6, u9, uc, u7, ← gq86.l1_nat]
def gq86 (w96 : List Int) (w95 : Int) (w97 : Int) (wb4 : Int) (wb6 : Int) (wb2 : List (El ue)) : Option (Int × Int × List (El ue) × List Int × Int × Int) := gq86.F (fun y0 y1 y2 y3 y4 y5 => some (y0, y1, y2, y3, y4, y5)) w96 w95 w97 wb4 wb6 wb2
def gq86.out : (Int × Int × List (El ue) × List Int × Int × Int) → CRes := fun a => ⟨encL SV.enc [.agg [.int .i64, .int .i64, .own [] ue true]] ((a.1, a.2.1, a.2.2.1, ()), ()), [encL SC.enc [.slv [1] (.int .u8), .int .i64, .int .i64] (a.2.2.2.1, a.2.2.2.2.1, a.2.2.2.2.2, ()), encL SC.enc [] ()]⟩
def gq86.ps : List PS := [.ptr [some ((.int .u8), false), none, none], .val [none, none, some (ue, false)]]
def gq86.sA : List SA := [.ptr [.slv [] (.int .u8), .int .i64, .int .i64], .v (.agg [.int .i64, .int .i64, .slv [] ue])]
def gq86.fi : FI := FIs gq86.sA (Int × Int × List (El ue) × List Int × Int × Int) (fun t => gq86 t.1.1 t.1.2.1 t.1.2.2.1 t.2.1.1 t.2.1.2.1 t.2.1.2.2.1) gq86.out gq86.ps
def gq86.E : Env := ⟨tt, lkF [(140, gq140.fi), (141, gq141.fi)], 58, 1, [], []⟩
def gq86.sh1 : SK := ⟨[.v (.one (.bptr 0 0)), .v (.one (.bptr 1 0)), .v (.one (.bptr 2 0)), .v (.one (.int .i64))], [.box [.slv [1] (.int .u8), .int .i64, .int .i64], .box [.int .i64, .int .i64, .nil], .box [.int .i64, .int .i64, .slo 3], .arr ue [] true]⟩
def gq86.sh1e0 : SK := ⟨[.v (.one (.bptr 0 0)), .v (.one (.bptr 1 0)), .v (.one (.bptr 2 0))], [.box [.slv [1] (.int .u8), .int .i64, .int .i64], .box [.int .i64, .int .i64, .nil], .box [.int .i64, .int .i64, .slo 3], .arr ue [] true]⟩
def gq86.ko1 : Ex → List u16 × List Nat
 | .nrm => ([], [])
 | .ret => ([], [])
 | .ext i => cond (Nat.beq i 0) ([], [0, 4, 5]) ([], [])
def gq86.G1 (n : Nat) (R : Type) (t : gq86.sh1.T) (K : Ex → Kp → Option R) : Option R := gq86.l1 (fun y0 y1 y2 y3 y4 y5 y6 y7 => K (.ext 0) (SK.enc gq86.sh1e0 (((), (), (), ()), ((y0, y1, y2, ()), (y3, y4, (), ()), (y5, y6, (), ()), y7, ())))) n t.1.2.2.2.1 t.2.1.1 t.2.1.2.1 t.2.1.2.2.1 t.2.2.1.1 t.2.2.1.2.1 t.2.2.2.1.1 t.2.2.2.1.2.1 t.2.2.2.2.1
def gq86.S1 : Sum := ⟨([], [0, 4, 5, 6]), sumF gq86.sh1 (gq86.G1 fuel), gq86.ko1⟩
theorem gq86.ok1 (hE : EOk Tryz.prog (gq86.E)) : u15 Tryz.prog gq86.E (cB (cR (cL (cR (cR (u5 Tryz.f86)))))) (gq86.S1) := by
 have hh : HintOk Tryz.prog gq86.E (cB (cB (cR (cL (cR (cR (u5 Tryz.f86))))))) (.a) := HintOk.n1 (Q := True) (by kernel_rfl) trivial
 have h := u2a (kin := ([], [0, 4, 5, 6])) (kout := gq86.ko1) (sh := gq86.sh1) (F := gq86.G1) (u1a (hE.gv _)) (by kernel_rfl) hh (fun _ _ _ => rfl) (fun n R t K => by kernel_rfl) fuel
 exact HintOk.n1 (c := (cB (cR (cL (cR (cR (u5 Tryz.f86))))))) (h := .s (gq86.S1)) (P := Tryz.prog) (E := gq86.E) (by kernel_rfl) h
theorem gq86.hok (hE : EOk Tryz.prog (gq86.E)) : HintOk Tryz.prog gq86.E (u5 Tryz.f86) (.n (.a) (.n (.a) (.n (.n (.a) (.b (.s (gq86.S1)))) (.a)))) := HintOk.n1 (Q := (True) ∧ ((True) ∧ (((True) ∧ (u15 Tryz.prog gq86.E (cB (cR (cL (cR (cR (u5 Tryz.f86)))))) (gq86.S1))) ∧ (True)))) (by kernel_rfl) ⟨trivial, ⟨trivial, ⟨⟨trivial, (gq86.ok1 hE)⟩, trivial⟩⟩⟩
theorem gq86.hE : EOk Tryz.prog (gq86.E) := EOk.of ttOk (⟨gq140.fok, ⟨gq141.fok, trivial⟩⟩)
theorem gq86.fok : FOk Tryz.prog 86 gq86.fi :=
 fokS (E := gq86.E) (wy := ⟨[[none, none, some (ue, true)]], [[some ((.int .u8), false), none, none], []], []⟩) (h := (fun gs => .n (.a) (.n (.a) (.n (.n (.a) (.b (.s (gq86.S1)))) (.a))))) (G := fun t g => gq86.F (fun y0 y1 y2 y3 y4 y5 => g (y0, y1, y2, y3, y4, y5)) t.1.1 t.1.2.1 t.1.2.2.1 t.2.1.1 t.2.1.2.1 t.2.1.2.2.1) (by kernel_rfl) gq86.hE Tryz.func86 (by kernel_rfl) rfl (Nat.le_refl _) (fun t => HintOk.n1 (by kernel_rfl) (gq86.hok gq86.hE)) (fun t g => gq86.N g (fun y0 y1 y2 y3 y4 y5 => some (y0, y1, y2, y3, y4, y5)) _ _ _ _ _ _) (fun t => by kernel_rfl)
def gq39.F {R : Type} (kk : Int → Int → List (El ue) → Option R) (code : List Int) (wb4 : Int) (wb6 : Int) (wb2 : List (El ue)) : Option R :=
 (gq63 code).bind fun r =>
 (gq86 r.1 r.2.1 r.2.2 wb4 wb6 wb2).bind fun r1 =>
 kk r1.1 r1.2.1 r1.2.2.1
theorem gq39.N (kk : Int → Int → List (El ue) → Option R) (code wb4 wb6 wb2) : gq39.F (fun y0 y1 y2 => (kk y0 y1 y2).bind g) code wb4 wb6 wb2 = (gq39.F kk code wb4 wb6 wb2).bind g := by
 simp only [gq39.F, u6, u9, uc, u7]
def gq39 (code : List Int) (wb4 : Int) (wb6 : Int) (wb2 : List (El ue)) : Option (Int × Int × List (El ue)) := gq39.F (fun y0 y1 y2 => some (y0, y1, y2)) code wb4 wb6 wb2
def gq39.out : (Int × Int × List (El ue)) → CRes := fun a => ⟨encL SV.enc [.agg [.int .i64, .int .i64, .own [] ue true]] ((a.1, a.2.1, a.2.2, ()), ()), [encL SC.enc [] (), encL SC.enc [] ()]⟩
def gq39.ps : List PS := [.val [some ((.int .u8), false)], .val [none, none, some (ue, false)]]
def gq39.sA : List SA := [.v (.one (.slv [] (.int .u8))), .v (.agg [.int .i64, .int .i64, .slv [] ue])]
def gq39.fi : FI := FIs gq39.sA (Int × Int × List (El ue)) (fun t => gq39 t.1 t.2.1.1 t.2.1.2.1 t.2.1.2.2.1) gq39.out gq39.ps
def gq39.E : Env := ⟨tt, lkF [(63, gq63.fi), (86, gq86.fi)], 9, 0, [], []⟩
theorem gq39.hok (hE : EOk Tryz.prog (gq39.E)) : HintOk Tryz.prog gq39.E (u5 Tryz.f39) (.a) := HintOk.n1 (Q := True) (by kernel_rfl) trivial
theorem gq39.hE : EOk Tryz.prog (gq39.E) := EOk.of ttOk (⟨gq63.fok, ⟨gq86.fok, trivial⟩⟩)
theorem gq39.fok : FOk Tryz.prog 39 gq39.fi :=
 fokS (E := gq39.E) (wy := ⟨[[none, none, some (ue, true)]], [[], []], []⟩) (h := (fun gs => .a)) (G := fun t g => gq39.F (fun y0 y1 y2 => g (y0, y1, y2)) t.1 t.2.1.1 t.2.1.2.1 t.2.1.2.2.1) (by kernel_rfl) gq39.hE Tryz.func39 (by kernel_rfl) rfl (Nat.le_refl _) (fun t => HintOk.n1 (by kernel_rfl) (gq39.hok gq39.hE)) (fun t g => gq39.N g (fun y0 y1 y2 => some (y0, y1, y2)) _ _ _ _) (fun t => by kernel_rfl)
def gq40.F {R : Type} (kk : List ByteArray → Int → Option R) (wa7 : Int) (wa8 : Int) (wa9 : List (El ue)) (waa : Int) (wab : Int) (wac : List (El ue)) : Option R :=
 (gq79 wa7 wa8 wa9).bind fun r =>
 cond (!r) (kk ([] : List ByteArray) (1 : Int)) (
  (gq79 waa wab wac).bind fun r1 =>
  cond (!r1) (kk ([] : List ByteArray) (1 : Int)) (
   (gq80 wa7 wa8 wa9 waa wab wac).bind fun r2 =>
   kk r2 (0 : Int)))
theorem gq40.N (kk : List ByteArray → Int → Option R) (wa7 wa8 wa9 waa wab wac) : gq40.F (fun y0 y1 => (kk y0 y1).bind g) wa7 wa8 wa9 waa wab wac = (gq40.F kk wa7 wa8 wa9 waa wab wac).bind g := by
 simp only [gq40.F, u6, u9, uc, u7]
def gq40 (wa7 : Int) (wa8 : Int) (wa9 : List (El ue)) (waa : Int) (wab : Int) (wac : List (El ue)) : Option (List ByteArray × Int) := gq40.F (fun y0 y1 => some (y0, y1)) wa7 wa8 wa9 waa wab wac
def gq40.out : (List ByteArray × Int) → CRes := fun a => ⟨encL SV.enc [.one (.own [] .str true), .one (.int .i64)] (a.1, a.2, ()), [encL SC.enc [] (), encL SC.enc [] ()]⟩
def gq40.ps : List PS := [.val [none, none, some (ue, false)], .val [none, none, some (ue, false)]]
def gq40.sA : List SA := [.v (.agg [.int .i64, .int .i64, .slv [] ue]), .v (.agg [.int .i64, .int .i64, .slv [] ue])]
def gq40.fi : FI := FIs gq40.sA (List ByteArray × Int) (fun t => gq40 t.1.1 t.1.2.1 t.1.2.2.1 t.2.1.1 t.2.1.2.1 t.2.1.2.2.1) gq40.out gq40.ps
def gq40.E : Env := ⟨tt, lkF [(79, gq79.fi), (80, gq80.fi)], 18, 0, [], []⟩
theorem gq40.hok (hE : EOk Tryz.prog (gq40.E)) : HintOk Tryz.prog gq40.E (u5 Tryz.f40) (.a) := HintOk.n1 (Q := True) (by kernel_rfl) trivial
theorem gq40.hE : EOk Tryz.prog (gq40.E) := EOk.of ttOk (⟨gq79.fok, ⟨gq80.fok, trivial⟩⟩)
theorem gq40.fok : FOk Tryz.prog 40 gq40.fi :=
 fokS (E := gq40.E) (wy := ⟨[[some (.str, true)], [none]], [[], []], []⟩) (h := (fun gs => .a)) (G := fun t g => gq40.F (fun y0 y1 => g (y0, y1)) t.1.1 t.1.2.1 t.1.2.2.1 t.2.1.1 t.2.1.2.1 t.2.1.2.2.1) (by kernel_rfl) gq40.hE Tryz.func40 (by kernel_rfl) rfl (Nat.le_refl _) (fun t => HintOk.n1 (by kernel_rfl) (gq40.hok gq40.hE)) (fun t g => gq40.N g (fun y0 y1 => some (y0, y1)) _ _ _ _ _ _) (fun t => by kernel_rfl)
def gq204.l1 {R : Type} (f : ((Int × Unit) → Option (Bool × Unit))) (kke0 : Option R) (kkr : Int → Option R) : Nat → List Int → Int → Int → Option R
 | 0, _, _, _ => none
 | n + 1, s, i, i1 =>
  cond (decide (i1 < i)) (
   grd (gIx i1 (List.length s)) <|
   (f (rdE (.int .i64 : Kd) s (Int.toNat i1), ())).bind fun r =>
   cond (r.1) (kkr i1) (gq204.l1 f kke0 kkr n s i (IntKind.wrap .i64 (i1 + (1 : Int))))) (kke0)
theorem gq204.l1_nat (f : ((Int × Unit) → Option (Bool × Unit))) (kke0 : Option R) (kkr : Int → Option R) : ∀ n s i i1, gq204.l1 f (kke0.bind g) (fun y0 => (kkr y0).bind g) n s i i1 = (gq204.l1 f kke0 kkr n s i i1).bind g := by
 intro n
 induction n with
 | zero => intros; rfl
 | succ n ih => intros; simp only [gq204.l1, u6, u9, uc, u7, ih]
def gq204.F {R : Type} (kk : Int → Option R) (s : List Int) (f : ((Int × Unit) → Option (Bool × Unit))) : Option R :=
 gq204.l1 f (kk (-1 : Int)) (fun i => kk i) fuel s (List.length s : Int) (0 : Int)
theorem gq204.N (kk : Int → Option R) (s f) : gq204.F (fun y0 => (kk y0).bind g) s f = (gq204.F kk s f).bind g := by
 simp only [gq204.F, u6, u9, uc, u7, ← gq204.l1_nat]
def gq204 (s : List Int) (f : ((Int × Unit) → Option (Bool × Unit))) : Option Int := gq204.F (fun y0 => some y0) s f
def gq204.out : Int → CRes := fun a => ⟨encL SV.enc [.one (.int .i64)] (a, ()), [encL SC.enc [] (), encL SC.enc [] ()]⟩
def gq204.ps : List PS := [.val [some ((.int .i64), false)], .fn [.one (.bool)]]
def gq204.sA : List SA := [.v (.one (.slv [] (.int .i64))), .fn [.one (.int .i64)] [.one (.bool)]]
def gq204.fi : FI := FIs gq204.sA (Int) (fun t => gq204 t.1 t.2.1) gq204.out gq204.ps
def gq204.E : Env := ⟨tt, lkF [], 19, 0, [], []⟩
def gq204.sh1 : SK := ⟨[.v (.one (.slv [1] (.int .i64))), .v (.one (.fv 0)), .v (.one (.int .i64)), .v (.one (.int .i64))], []⟩
def gq204.sh1e0 : SK := ⟨[], []⟩
def gq204.sh1r : SK := ⟨[.v (.one (.int .i64))], []⟩
def gq204.ko1 : Ex → List u16 × List Nat
 | .nrm => ([], [])
 | .ret => ([], [4])
 | .ext i => cond (Nat.beq i 0) ([], []) ([], [])
def gq204.G1 (f : ((Int × Unit) → Option (Bool × Unit))) (n : Nat) (R : Type) (t : gq204.sh1.T) (K : Ex → Kp → Option R) : Option R := gq204.l1 f (K (.ext 0) (SK.enc gq204.sh1e0 ((), ()))) (fun y0 => K .ret (SK.enc gq204.sh1r ((y0, ()), ()))) n t.1.1 t.1.2.2.1 t.1.2.2.2.1
def gq204.S1 (f : ((Int × Unit) → Option (Bool × Unit))) : Sum := ⟨([], [0, 1, 7, 8]), sumF gq204.sh1 (gq204.G1 f fuel), gq204.ko1⟩
theorem gq204.ok1 (f : ((Int × Unit) → Option (Bool × Unit))) (hE : EOk Tryz.prog (gq204.E)) : u15 Tryz.prog { (gq204.E) with gv := [fnE [.one (.int .i64)] [.one (.bool)] f] } (cB (cR (cL (cR (u5 Tryz.f204))))) (gq204.S1 f) := by
 have hh : HintOk Tryz.prog { (gq204.E) with gv := [fnE [.one (.int .i64)] [.one (.bool)] f] } (cB (cB (cR (cL (cR (u5 Tryz.f204)))))) (.a) := HintOk.n1 (Q := True) (by kernel_rfl) trivial
 have h := u2a (kin := ([], [0, 1, 7, 8])) (kout := gq204.ko1) (sh := gq204.sh1) (F := gq204.G1 f) (u1a (hE.gv _)) (by kernel_rfl) hh (fun _ _ _ => rfl) (fun n R t K => by kernel_rfl) fuel
 exact HintOk.n1 (c := (cB (cR (cL (cR (u5 Tryz.f204)))))) (h := .s (gq204.S1 f)) (P := Tryz.prog) (E := { (gq204.E) with gv := [fnE [.one (.int .i64)] [.one (.bool)] f] }) (by kernel_rfl) h
theorem gq204.hok (f : ((Int × Unit) → Option (Bool × Unit))) (hE : EOk Tryz.prog (gq204.E)) : HintOk Tryz.prog { (gq204.E) with gv := [fnE [.one (.int .i64)] [.one (.bool)] f] } (u5 Tryz.f204) (.n (.a) (.n (.n (.a) (.b (.s (gq204.S1 f)))) (.a))) := HintOk.n1 (Q := (True) ∧ (((True) ∧ (u15 Tryz.prog { (gq204.E) with gv := [fnE [.one (.int .i64)] [.one (.bool)] f] } (cB (cR (cL (cR (u5 Tryz.f204))))) (gq204.S1 f))) ∧ (True))) (by kernel_rfl) ⟨trivial, ⟨⟨trivial, (gq204.ok1 f hE)⟩, trivial⟩⟩
theorem gq204.hE : EOk Tryz.prog (gq204.E) := EOk.of ttOk (trivial)
theorem gq204.fok : FOk Tryz.prog 204 gq204.fi :=
 fokS (E := gq204.E) (wy := ⟨[[none]], [[], []], []⟩) (h := (fun gs => let f := fnP [.one (.int .i64)] [.one (.bool)] (gN 0 gs); .n (.a) (.n (.n (.a) (.b (.s (gq204.S1 f)))) (.a)))) (G := fun t g => gq204.F (fun y0 => g y0) t.1 t.2.1) (by kernel_rfl) gq204.hE Tryz.func204 (by kernel_rfl) rfl (Nat.le_refl _) (fun t => HintOk.n1 (by kernel_rfl) (gq204.hok t.2.1 gq204.hE)) (fun t g => gq204.N g (fun y0 => some y0) _ _) (fun t => by kernel_rfl)
def gq198.F {R : Type} (kk : Bool → Option R) (s : List Int) (f : ((Int × Unit) → Option (Bool × Unit))) : Option R :=
 (gq204 s f).bind fun r =>
 kk (decide (r ≥ (0 : Int)))
theorem gq198.N (kk : Bool → Option R) (s f) : gq198.F (fun y0 => (kk y0).bind g) s f = (gq198.F kk s f).bind g := by
 simp only [gq198.F, u6, u9, uc, u7]
def gq198 (s : List Int) (f : ((Int × Unit) → Option (Bool × Unit))) : Option Bool := gq198.F (fun y0 => some y0) s f
def gq198.out : Bool → CRes := fun a => ⟨encL SV.enc [.one (.bool)] (a, ()), [encL SC.enc [] (), encL SC.enc [] ()]⟩
def gq198.ps : List PS := [.val [some ((.int .i64), false)], .fn [.one (.bool)]]
def gq198.sA : List SA := [.v (.one (.slv [] (.int .i64))), .fn [.one (.int .i64)] [.one (.bool)]]
def gq198.fi : FI := FIs gq198.sA (Bool) (fun t => gq198 t.1 t.2.1) gq198.out gq198.ps
def gq198.E : Env := ⟨tt, lkF [(204, gq204.fi)], 9, 0, [], []⟩
theorem gq198.hok (f : ((Int × Unit) → Option (Bool × Unit))) (hE : EOk Tryz.prog (gq198.E)) : HintOk Tryz.prog { (gq198.E) with gv := [fnE [.one (.int .i64)] [.one (.bool)] f] } (u5 Tryz.f198) (.a) := HintOk.n1 (Q := True) (by kernel_rfl) trivial
theorem gq198.hE : EOk Tryz.prog (gq198.E) := EOk.of ttOk (⟨gq204.fok, trivial⟩)
theorem gq198.fok : FOk Tryz.prog 198 gq198.fi :=
 fokS (E := gq198.E) (wy := ⟨[[none]], [[], []], []⟩) (h := (fun gs => let f := fnP [.one (.int .i64)] [.one (.bool)] (gN 0 gs); .a)) (G := fun t g => gq198.F (fun y0 => g y0) t.1 t.2.1) (by kernel_rfl) gq198.hE Tryz.func198 (by kernel_rfl) rfl (Nat.le_refl _) (fun t => HintOk.n1 (by kernel_rfl) (gq198.hok t.2.1 gq198.hE)) (fun t g => gq198.N g (fun y0 => some y0) _ _) (fun t => by kernel_rfl)
def gq199.F {R : Type} (kk : Bool → Option R) (n_ : Int) : Option R :=
 (gq67 n_ (0 : Int) (6 : Int)).bind fun r =>
 kk (!r)
theorem gq199.N (kk : Bool → Option R) (n_) : gq199.F (fun y0 => (kk y0).bind g) n_ = (gq199.F kk n_).bind g := by
 simp only [gq199.F, u6, u9, uc, u7]
def gq199 (n_ : Int) : Option Bool := gq199.F (fun y0 => some y0) n_
def gq199.out : Bool → CRes := fun a => ⟨encL SV.enc [.one (.bool)] (a, ()), [encL SC.enc [] ()]⟩
def gq199.ps : List PS := [.val [none]]
def gq199.sA : List SA := [.v (.one (.int .i64))]
def gq199.fi : FI := FIs gq199.sA (Bool) (fun t => gq199 t.1) gq199.out gq199.ps
def gq199.E : Env := ⟨tt, lkF [(67, gq67.fi)], 6, 0, [], []⟩
theorem gq199.hok (hE : EOk Tryz.prog (gq199.E)) : HintOk Tryz.prog gq199.E (u5 Tryz.f199) (.a) := HintOk.n1 (Q := True) (by kernel_rfl) trivial
theorem gq199.hE : EOk Tryz.prog (gq199.E) := EOk.of ttOk (⟨gq67.fok, trivial⟩)
theorem gq199.fok : FOk Tryz.prog 199 gq199.fi :=
 fokS (E := gq199.E) (wy := ⟨[[none]], [[]], []⟩) (h := (fun gs => .a)) (G := fun t g => gq199.F (fun y0 => g y0) t.1) (by kernel_rfl) gq199.hE Tryz.func199 (by kernel_rfl) rfl (Nat.le_refl _) (fun t => HintOk.n1 (by kernel_rfl) (gq199.hok gq199.hE)) (fun t g => gq199.N g (fun y0 => some y0) _) (fun t => by kernel_rfl)
def gq192.F {R : Type} (kk : Bool → Option R) (list : List Int) : Option R :=
 (gq198 list (fun t => (gq199 t.1).bind fun a => some (a, ()))).bind fun r =>
 kk (!r)
theorem gq192.N (kk : Bool → Option R) (list) : gq192.F (fun y0 => (kk y0).bind g) list = (gq192.F kk list).bind g := by
 simp only [gq192.F, u6, u9, uc, u7]
def gq192 (list : List Int) : Option Bool := gq192.F (fun y0 => some y0) list
def gq192.out : Bool → CRes := fun a => ⟨encL SV.enc [.one (.bool)] (a, ()), [encL SC.enc [] ()]⟩
def gq192.ps : List PS := [.val [some ((.int .i64), false)]]
def gq192.sA : List SA := [.v (.one (.slv [] (.int .i64)))]
def gq192.fi : FI := FIs gq192.sA (Bool) (fun t => gq192 t.1) gq192.out gq192.ps
def gq192.E : Env := ⟨tt, lkF [(198, gq198.fi), (199, gq199.fi)], 6, 0, [], []⟩
theorem gq192.hok (hE : EOk Tryz.prog (gq192.E)) : HintOk Tryz.prog gq192.E (u5 Tryz.f192) (.a) := HintOk.n1 (Q := True) (by kernel_rfl) trivial
theorem gq192.hE : EOk Tryz.prog (gq192.E) := EOk.of ttOk (⟨gq198.fok, ⟨gq199.fok, trivial⟩⟩)
theorem gq192.fok : FOk Tryz.prog 192 gq192.fi :=
 fokS (E := gq192.E) (wy := ⟨[[none]], [[]], []⟩) (h := (fun gs => .a)) (G := fun t g => gq192.F (fun y0 => g y0) t.1) (by kernel_rfl) gq192.hE Tryz.func192 (by kernel_rfl) rfl (Nat.le_refl _) (fun t => HintOk.n1 (by kernel_rfl) (gq192.hok gq192.hE)) (fun t g => gq192.N g (fun y0 => some y0) _) (fun t => by kernel_rfl)
def gq193.l1 {R : Type} (kke0 : Option R) (kkr : Bool → Option R) : Nat → List Int → Int → Option R
 | 0, _, _ => none
 | n + 1, list, i =>
  cond (decide (i < (List.length list : Int))) (
   grd (gIx (IntKind.wrap .i64 (i - (1 : Int))) (List.length list)) <|
   grd (gIx i (List.length list)) <|
   cond (decide ((rdE (.int .i64 : Kd) list (Int.toNat (IntKind.wrap .i64 (i - (1 : Int))))) ≥ (rdE (.int .i64 : Kd) list (Int.toNat i)))) (kkr false) (gq193.l1 kke0 kkr n list (IntKind.wrap .i64 (i + (1 : Int))))) (kke0)
theorem gq193.l1_nat (kke0 : Option R) (kkr : Bool → Option R) : ∀ n list i, gq193.l1 (kke0.bind g) (fun y0 => (kkr y0).bind g) n list i = (gq193.l1 kke0 kkr n list i).bind g := by
 intro n
 induction n with
 | zero => intros; rfl
 | succ n ih => intros; simp only [gq193.l1, u6, u9, uc, u7, ih]
def gq193.F {R : Type} (kk : Bool → Option R) (list : List Int) : Option R :=
 gq193.l1 (kk true) (fun b => kk b) fuel list (1 : Int)
theorem gq193.N (kk : Bool → Option R) (list) : gq193.F (fun y0 => (kk y0).bind g) list = (gq193.F kk list).bind g := by
 simp only [gq193.F, u6, u9, uc, u7, ← gq193.l1_nat]
def gq193 (list : List Int) : Option Bool := gq193.F (fun y0 => some y0) list
def gq193.out : Bool → CRes := fun a => ⟨encL SV.enc [.one (.bool)] (a, ()), [encL SC.enc [] ()]⟩
def gq193.ps : List PS := [.val [some ((.int .i64), false)]]
def gq193.sA : List SA := [.v (.one (.slv [] (.int .i64)))]
def gq193.fi : FI := FIs gq193.sA (Bool) (fun t => gq193 t.1) gq193.out gq193.ps
def gq193.E : Env := ⟨tt, lkF [], 20, 0, [], []⟩
def gq193.sh1 : SK := ⟨[.v (.one (.slv [1] (.int .i64))), .v (.one (.int .i64))], []⟩
def gq193.sh1e0 : SK := ⟨[], []⟩
def gq193.sh1r : SK := ⟨[.v (.one (.bool))], []⟩
def gq193.ko1 : Ex → List u16 × List Nat
 | .nrm => ([], [])
 | .ret => ([], [2])
 | .ext i => cond (Nat.beq i 0) ([], []) ([], [])
def gq193.G1 (n : Nat) (R : Type) (t : gq193.sh1.T) (K : Ex → Kp → Option R) : Option R := gq193.l1 (K (.ext 0) (SK.enc gq193.sh1e0 ((), ()))) (fun y0 => K .ret (SK.enc gq193.sh1r ((y0, ()), ()))) n t.1.1 t.1.2.1
def gq193.S1 : Sum := ⟨([], [0, 3]), sumF gq193.sh1 (gq193.G1 fuel), gq193.ko1⟩
theorem gq193.ok1 (hE : EOk Tryz.prog (gq193.E)) : u15 Tryz.prog gq193.E (cB (cR (cL (cR (u5 Tryz.f193))))) (gq193.S1) := by
 have hh : HintOk Tryz.prog gq193.E (cB (cB (cR (cL (cR (u5 Tryz.f193)))))) (.a) := HintOk.n1 (Q := True) (by kernel_rfl) trivial
 have h := u2a (kin := ([], [0, 3])) (kout := gq193.ko1) (sh := gq193.sh1) (F := gq193.G1) (u1a (hE.gv _)) (by kernel_rfl) hh (fun _ _ _ => rfl) (fun n R t K => by kernel_rfl) fuel
 exact HintOk.n1 (c := (cB (cR (cL (cR (u5 Tryz.f193)))))) (h := .s (gq193.S1)) (P := Tryz.prog) (E := gq193.E) (by kernel_rfl) h
theorem gq193.hok (hE : EOk Tryz.prog (gq193.E)) : HintOk Tryz.prog gq193.E (u5 Tryz.f193) (.n (.a) (.n (.n (.a) (.b (.s (gq193.S1)))) (.a))) := HintOk.n1 (Q := (True) ∧ (((True) ∧ (u15 Tryz.prog gq193.E (cB (cR (cL (cR (u5 Tryz.f193))))) (gq193.S1))) ∧ (True))) (by kernel_rfl) ⟨trivial, ⟨⟨trivial, (gq193.ok1 hE)⟩, trivial⟩⟩
theorem gq193.hE : EOk Tryz.prog (gq193.E) := EOk.of ttOk (trivial)
theorem gq193.fok : FOk Tryz.prog 193 gq193.fi :=
 fokS (E := gq193.E) (wy := ⟨[[none]], [[]], []⟩) (h := (fun gs => .n (.a) (.n (.n (.a) (.b (.s (gq193.S1)))) (.a)))) (G := fun t g => gq193.F (fun y0 => g y0) t.1) (by kernel_rfl) gq193.hE Tryz.func193 (by kernel_rfl) rfl (Nat.le_refl _) (fun t => HintOk.n1 (by kernel_rfl) (gq193.hok gq193.hE)) (fun t g => gq193.N g (fun y0 => some y0) _) (fun t => by kernel_rfl)
def gq185.F {R : Type} (kk : Bool → Option R) (members : List Int) : Option R :=
 cond (decide ((List.length members : Int) > (0 : Int))) (
  (gq192 members).bind fun r =>
  cond (r) (
   (gq193 members).bind fun r1 =>
   kk r1) (kk false)) (kk false)
theorem gq185.N (kk : Bool → Option R) (members) : gq185.F (fun y0 => (kk y0).bind g) members = (gq185.F kk members).bind g := by
 simp only [gq185.F, u6, u9, uc, u7]
def gq185 (members : List Int) : Option Bool := gq185.F (fun y0 => some y0) members
def gq185.out : Bool → CRes := fun a => ⟨encL SV.enc [.one (.bool)] (a, ()), [encL SC.enc [] ()]⟩
def gq185.ps : List PS := [.val [some ((.int .i64), false)]]
def gq185.sA : List SA := [.v (.one (.slv [] (.int .i64)))]
def gq185.fi : FI := FIs gq185.sA (Bool) (fun t => gq185 t.1) gq185.out gq185.ps
def gq185.E : Env := ⟨tt, lkF [(192, gq192.fi), (193, gq193.fi)], 14, 0, [], []⟩
theorem gq185.hok (hE : EOk Tryz.prog (gq185.E)) : HintOk Tryz.prog gq185.E (u5 Tryz.f185) (.a) := HintOk.n1 (Q := True) (by kernel_rfl) trivial
theorem gq185.hE : EOk Tryz.prog (gq185.E) := EOk.of ttOk (⟨gq192.fok, ⟨gq193.fok, trivial⟩⟩)
theorem gq185.fok : FOk Tryz.prog 185 gq185.fi :=
 fokS (E := gq185.E) (wy := ⟨[[none]], [[]], []⟩) (h := (fun gs => .a)) (G := fun t g => gq185.F (fun y0 => g y0) t.1) (by kernel_rfl) gq185.hE Tryz.func185 (by kernel_rfl) rfl (Nat.le_refl _) (fun t => HintOk.n1 (by kernel_rfl) (gq185.hok gq185.hE)) (fun t g => gq185.N g (fun y0 => some y0) _) (fun t => by kernel_rfl)
def gq166.l1 {R : Type} (kke0 : List Int → Option R) : Nat → ByteArray → Int → Int → List Int → Option R
 | 0, _, _, _, _ => none
 | n + 1, data, i, i1, out =>
  cond (decide (i1 < i)) (
   grd (gIx i1 (ByteArray.size data)) <|
   grd (gRm (((List.length out) + (List.length [IntKind.wrap .i64 (u21 data i1)])) * 8)) <|
   gq166.l1 kke0 n data i (IntKind.wrap .i64 (i1 + (1 : Int))) (out ++ [IntKind.wrap .i64 (u21 data i1)])) (kke0 out)
theorem gq166.l1_nat (kke0 : List Int → Option R) : ∀ n data i i1 out, gq166.l1 (fun y0 => (kke0 y0).bind g) n data i i1 out = (gq166.l1 kke0 n data i i1 out).bind g := by
 intro n
 induction n with
 | zero => intros; rfl
 | succ n ih => intros; simp only [gq166.l1, u6, u9, uc, u7, ih]
def gq166.F {R : Type} (kk : List Int → Bool → Option R) (data : ByteArray) : Option R :=
 gq166.l1 (fun out =>
  (gq185 out).bind fun r =>
  kk out r) fuel data (ByteArray.size data : Int) (0 : Int) ([] : List Int)
theorem gq166.N (kk : List Int → Bool → Option R) (data) : gq166.F (fun y0 y1 => (kk y0 y1).bind g) data = (gq166.F kk data).bind g := by
 simp only [gq166.F, u6, u9, uc, u7, ← gq166.l1_nat]
def gq166 (data : ByteArray) : Option (List Int × Bool) := gq166.F (fun y0 y1 => some (y0, y1)) data
def gq166.out : (List Int × Bool) → CRes := fun a => ⟨encL SV.enc [.one (.own [] (.int .i64) true), .one (.bool)] (a.1, a.2, ()), [encL SC.enc [] ()]⟩
def gq166.ps : List PS := [.val [none]]
def gq166.sA : List SA := [.v (.one (.str))]
def gq166.fi : FI := FIs gq166.sA (List Int × Bool) (fun t => gq166 t.1) gq166.out gq166.ps
def gq166.E : Env := ⟨tt, lkF [(185, gq185.fi)], 23, 0, [], []⟩
def gq166.sh1 : SK := ⟨[.v (.one (.str)), .v (.one (.slo 0)), .v (.one (.int .i64)), .v (.one (.int .i64))], [.arr (.int .i64) [] true]⟩
def gq166.sh1e0 : SK := ⟨[.v (.one (.slo 0))], [.arr (.int .i64) [] true]⟩
def gq166.ko1 : Ex → List u16 × List Nat
 | .nrm => ([], [])
 | .ret => ([], [])
 | .ext i => cond (Nat.beq i 0) ([], [4]) ([], [])
def gq166.G1 (n : Nat) (R : Type) (t : gq166.sh1.T) (K : Ex → Kp → Option R) : Option R := gq166.l1 (fun y0 => K (.ext 0) (SK.enc gq166.sh1e0 (((), ()), (y0, ())))) n t.1.1 t.1.2.2.1 t.1.2.2.2.1 t.2.1
def gq166.S1 : Sum := ⟨([], [0, 4, 8, 9]), sumF gq166.sh1 (gq166.G1 fuel), gq166.ko1⟩
theorem gq166.ok1 (hE : EOk Tryz.prog (gq166.E)) : u15 Tryz.prog gq166.E (cB (cR (cL (cR (cR (u5 Tryz.f166)))))) (gq166.S1) := by
 have hh : HintOk Tryz.prog gq166.E (cB (cB (cR (cL (cR (cR (u5 Tryz.f166))))))) (.a) := HintOk.n1 (Q := True) (by kernel_rfl) trivial
 have h := u2a (kin := ([], [0, 4, 8, 9])) (kout := gq166.ko1) (sh := gq166.sh1) (F := gq166.G1) (u1a (hE.gv _)) (by kernel_rfl) hh (fun _ _ _ => rfl) (fun n R t K => by kernel_rfl) fuel
 exact HintOk.n1 (c := (cB (cR (cL (cR (cR (u5 Tryz.f166))))))) (h := .s (gq166.S1)) (P := Tryz.prog) (E := gq166.E) (by kernel_rfl) h
theorem gq166.hok (hE : EOk Tryz.prog (gq166.E)) : HintOk Tryz.prog gq166.E (u5 Tryz.f166) (.n (.a) (.n (.a) (.n (.n (.a) (.b (.s (gq166.S1)))) (.a)))) := HintOk.n1 (Q := (True) ∧ ((True) ∧ (((True) ∧ (u15 Tryz.prog gq166.E (cB (cR (cL (cR (cR (u5 Tryz.f166)))))) (gq166.S1))) ∧ (True)))) (by kernel_rfl) ⟨trivial, ⟨trivial, ⟨⟨trivial, (gq166.ok1 hE)⟩, trivial⟩⟩⟩
theorem gq166.hE : EOk Tryz.prog (gq166.E) := EOk.of ttOk (⟨gq185.fok, trivial⟩)
theorem gq166.fok : FOk Tryz.prog 166 gq166.fi :=
 fokS (E := gq166.E) (wy := ⟨[[some ((.int .i64), true)], [none]], [[]], []⟩) (h := (fun gs => .n (.a) (.n (.a) (.n (.n (.a) (.b (.s (gq166.S1)))) (.a))))) (G := fun t g => gq166.F (fun y0 y1 => g (y0, y1)) t.1) (by kernel_rfl) gq166.hE Tryz.func166 (by kernel_rfl) rfl (Nat.le_refl _) (fun t => HintOk.n1 (by kernel_rfl) (gq166.hok gq166.hE)) (fun t g => gq166.N g (fun y0 y1 => some (y0, y1)) _) (fun t => by kernel_rfl)
def gq146.F {R : Type} (kk : Bool → Option R) (wb0 : Int) (wa6 : Int) (w9f : ByteArray) : Option R :=
 (gq67 wb0 (1 : Int) (1000000 : Int)).bind fun r =>
 cond (!r) (kk false) (
  cond (wa6 == (0 : Int)) (kk (sEq w9f ByteArray.empty)) (
   cond (wa6 == (1 : Int)) (
    (gq67 (ByteArray.size w9f : Int) (1 : Int) (100 : Int)).bind fun r1 =>
    kk r1) (
    cond (wa6 == (2 : Int)) (
     (gq166 w9f).bind fun r2 =>
     kk r2.2) (kk false))))
theorem gq146.N (kk : Bool → Option R) (wb0 wa6 w9f) : gq146.F (fun y0 => (kk y0).bind g) wb0 wa6 w9f = (gq146.F kk wb0 wa6 w9f).bind g := by
 simp only [gq146.F, u6, u9, uc, u7]
def gq146 (wb0 : Int) (wa6 : Int) (w9f : ByteArray) : Option Bool := gq146.F (fun y0 => some y0) wb0 wa6 w9f
def gq146.out : Bool → CRes := fun a => ⟨encL SV.enc [.one (.bool)] (a, ()), [encL SC.enc [] ()]⟩
def gq146.ps : List PS := [.val [none, none, none]]
def gq146.sA : List SA := [.v (.agg [.int .i64, .int .i64, .str])]
def gq146.fi : FI := FIs gq146.sA (Bool) (fun t => gq146 t.1.1 t.1.2.1 t.1.2.2.1) gq146.out gq146.ps
def gq146.E : Env := ⟨tt, lkF [(67, gq67.fi), (166, gq166.fi)], 31, 0, [], []⟩
theorem gq146.hok (hE : EOk Tryz.prog (gq146.E)) : HintOk Tryz.prog gq146.E (u5 Tryz.f146) (.a) := HintOk.n1 (Q := True) (by kernel_rfl) trivial
theorem gq146.hE : EOk Tryz.prog (gq146.E) := EOk.of ttOk (⟨gq67.fok, ⟨gq166.fok, trivial⟩⟩)
theorem gq146.fok : FOk Tryz.prog 146 gq146.fi :=
 fokS (E := gq146.E) (wy := ⟨[[none]], [[]], []⟩) (h := (fun gs => .a)) (G := fun t g => gq146.F (fun y0 => g y0) t.1.1 t.1.2.1 t.1.2.2.1) (by kernel_rfl) gq146.hE Tryz.func146 (by kernel_rfl) rfl (Nat.le_refl _) (fun t => HintOk.n1 (by kernel_rfl) (gq146.hok gq146.hE)) (fun t g => gq146.N g (fun y0 => some y0) _ _ _) (fun t => by kernel_rfl)
def gq92.l1 {R : Type} (kke0 : List (El ue) → Option R) (kkr : Bool → Option R) : Nat → List (El ue) → Int → List (El ue) → Int → Int → Option R
 | 0, _, _, _, _, _ => none
 | n + 1, log, term, l, i, i1 =>
  cond (decide (i1 < i)) (
   grd (gIx i1 (List.length l)) <|
   (gq146 ((rdE ue l (Int.toNat i1)).1) ((rdE ue l (Int.toNat i1)).2.1) ((rdE ue l (Int.toNat i1)).2.2)).bind fun r =>
   cond (!r) (kkr false) (
    cond (decide ((rdE ue l (Int.toNat i1)).1 > term)) (kkr false) (
     cond (decide (i1 > (0 : Int))) (
      grd (gIx (IntKind.wrap .i64 (i1 - (1 : Int))) (List.length log)) <|
      cond (decide ((rdE ue log (Int.toNat (IntKind.wrap .i64 (i1 - (1 : Int))))).1 > (rdE ue l (Int.toNat i1)).1)) (kkr false) (gq92.l1 kke0 kkr n log term l i (IntKind.wrap .i64 (i1 + (1 : Int))))) (gq92.l1 kke0 kkr n log term l i (IntKind.wrap .i64 (i1 + (1 : Int))))))) (kke0 log)
theorem gq92.l1_nat (kke0 : List (El ue) → Option R) (kkr : Bool → Option R) : ∀ n log term l i i1, gq92.l1 (fun y0 => (kke0 y0).bind g) (fun y0 => (kkr y0).bind g) n log term l i i1 = (gq92.l1 kke0 kkr n log term l i i1).bind g := by
 intro n
 induction n with
 | zero => intros; rfl
 | succ n ih => intros; simp only [gq92.l1, u6, u9, uc, u7, ih]
def gq92.F {R : Type} (kk : Bool → Option R) (log : List (El ue)) (term : Int) : Option R :=
 gq92.l1 (fun log1 => kk (decide ((List.length log1 : Int) ≤ (60 : Int)))) (fun b => kk b) fuel log term log (List.length log : Int) (0 : Int)
theorem gq92.N (kk : Bool → Option R) (log term) : gq92.F (fun y0 => (kk y0).bind g) log term = (gq92.F kk log term).bind g := by
 simp only [gq92.F, u6, u9, uc, u7, ← gq92.l1_nat]
def gq92 (log : List (El ue)) (term : Int) : Option Bool := gq92.F (fun y0 => some y0) log term
def gq92.out : Bool → CRes := fun a => ⟨encL SV.enc [.one (.bool)] (a, ()), [encL SC.enc [] (), encL SC.enc [] ()]⟩
def gq92.ps : List PS := [.val [some (ue, false)], .val [none]]
def gq92.sA : List SA := [.v (.one (.slv [] ue)), .v (.one (.int .i64))]
def gq92.fi : FI := FIs gq92.sA (Bool) (fun t => gq92 t.1 t.2.1) gq92.out gq92.ps
def gq92.E : Env := ⟨tt, lkF [(146, gq146.fi)], 42, 0, [], []⟩
def gq92.sh1 : SK := ⟨[.v (.one (.slv [1] ue)), .v (.one (.int .i64)), .v (.one (.slv [1] ue)), .v (.one (.int .i64)), .v (.one (.int .i64))], []⟩
def gq92.sh1e0 : SK := ⟨[.v (.one (.slv [1] ue))], []⟩
def gq92.sh1r : SK := ⟨[.v (.one (.bool))], []⟩
def gq92.ko1 : Ex → List u16 × List Nat
 | .nrm => ([], [])
 | .ret => ([], [4])
 | .ext i => cond (Nat.beq i 0) ([], [0]) ([], [])
def gq92.G1 (n : Nat) (R : Type) (t : gq92.sh1.T) (K : Ex → Kp → Option R) : Option R := gq92.l1 (fun y0 => K (.ext 0) (SK.enc gq92.sh1e0 ((y0, ()), ()))) (fun y0 => K .ret (SK.enc gq92.sh1r ((y0, ()), ()))) n t.1.1 t.1.2.1 t.1.2.2.1 t.1.2.2.2.1 t.1.2.2.2.2.1
def gq92.S1 : Sum := ⟨([], [0, 1, 7, 8, 9]), sumF gq92.sh1 (gq92.G1 fuel), gq92.ko1⟩
theorem gq92.ok1 (hE : EOk Tryz.prog (gq92.E)) : u15 Tryz.prog gq92.E (cB (cR (cL (cR (u5 Tryz.f92))))) (gq92.S1) := by
 have hh : HintOk Tryz.prog gq92.E (cB (cB (cR (cL (cR (u5 Tryz.f92)))))) (.a) := HintOk.n1 (Q := True) (by kernel_rfl) trivial
 have h := u2a (kin := ([], [0, 1, 7, 8, 9])) (kout := gq92.ko1) (sh := gq92.sh1) (F := gq92.G1) (u1a (hE.gv _)) (by kernel_rfl) hh (fun _ _ _ => rfl) (fun n R t K => by kernel_rfl) fuel
 exact HintOk.n1 (c := (cB (cR (cL (cR (u5 Tryz.f92)))))) (h := .s (gq92.S1)) (P := Tryz.prog) (E := gq92.E) (by kernel_rfl) h
theorem gq92.hok (hE : EOk Tryz.prog (gq92.E)) : HintOk Tryz.prog gq92.E (u5 Tryz.f92) (.n (.a) (.n (.n (.a) (.b (.s (gq92.S1)))) (.a))) := HintOk.n1 (Q := (True) ∧ (((True) ∧ (u15 Tryz.prog gq92.E (cB (cR (cL (cR (u5 Tryz.f92))))) (gq92.S1))) ∧ (True))) (by kernel_rfl) ⟨trivial, ⟨⟨trivial, (gq92.ok1 hE)⟩, trivial⟩⟩
theorem gq92.hE : EOk Tryz.prog (gq92.E) := EOk.of ttOk (⟨gq146.fok, trivial⟩)
theorem gq92.fok : FOk Tryz.prog 92 gq92.fi :=
 fokS (E := gq92.E) (wy := ⟨[[none]], [[], []], []⟩) (h := (fun gs => .n (.a) (.n (.n (.a) (.b (.s (gq92.S1)))) (.a)))) (G := fun t g => gq92.F (fun y0 => g y0) t.1 t.2.1) (by kernel_rfl) gq92.hE Tryz.func92 (by kernel_rfl) rfl (Nat.le_refl _) (fun t => HintOk.n1 (by kernel_rfl) (gq92.hok gq92.hE)) (fun t g => gq92.N g (fun y0 => some y0) _ _) (fun t => by kernel_rfl)
def gq47.F {R : Type} (kk : Bool → Option R) (w99 : Int) (w9a : Int) (w98 : List (El ue)) : Option R :=
 (gq67 w99 (0 : Int) (1000000 : Int)).bind fun r =>
 cond (r) (
  (gq67 w9a (-1 : Int) (6 : Int)).bind fun r1 =>
  cond (r1) (
   (gq92 w98 w99).bind fun r2 =>
   kk r2) (kk false)) (kk false)
theorem gq47.N (kk : Bool → Option R) (w99 w9a w98) : gq47.F (fun y0 => (kk y0).bind g) w99 w9a w98 = (gq47.F kk w99 w9a w98).bind g := by
 simp only [gq47.F, u6, u9, uc, u7]
def gq47 (w99 : Int) (w9a : Int) (w98 : List (El ue)) : Option Bool := gq47.F (fun y0 => some y0) w99 w9a w98
def gq47.out : Bool → CRes := fun a => ⟨encL SV.enc [.one (.bool)] (a, ()), [encL SC.enc [] ()]⟩
def gq47.ps : List PS := [.val [none, none, some (ue, false)]]
def gq47.sA : List SA := [.v (.agg [.int .i64, .int .i64, .slv [] ue])]
def gq47.fi : FI := FIs gq47.sA (Bool) (fun t => gq47 t.1.1 t.1.2.1 t.1.2.2.1) gq47.out gq47.ps
def gq47.E : Env := ⟨tt, lkF [(67, gq67.fi), (92, gq92.fi)], 18, 0, [], []⟩
theorem gq47.hok (hE : EOk Tryz.prog (gq47.E)) : HintOk Tryz.prog gq47.E (u5 Tryz.f47) (.a) := HintOk.n1 (Q := True) (by kernel_rfl) trivial
theorem gq47.hE : EOk Tryz.prog (gq47.E) := EOk.of ttOk (⟨gq67.fok, ⟨gq92.fok, trivial⟩⟩)
theorem gq47.fok : FOk Tryz.prog 47 gq47.fi :=
 fokS (E := gq47.E) (wy := ⟨[[none]], [[]], []⟩) (h := (fun gs => .a)) (G := fun t g => gq47.F (fun y0 => g y0) t.1.1 t.1.2.1 t.1.2.2.1) (by kernel_rfl) gq47.hE Tryz.func47 (by kernel_rfl) rfl (Nat.le_refl _) (fun t => HintOk.n1 (by kernel_rfl) (gq47.hok gq47.hE)) (fun t g => gq47.N g (fun y0 => some y0) _ _ _) (fun t => by kernel_rfl)
def gq142.F {R : Type} (kk : Bool → Option R) (record : ByteArray) : Option R :=
 kk (decide ((ByteArray.size record : Int) > (110 : Int)))
theorem gq142.N (kk : Bool → Option R) (record) : gq142.F (fun y0 => (kk y0).bind g) record = (gq142.F kk record).bind g := by
 simp only [gq142.F, u6, u9, uc, u7]
def gq142 (record : ByteArray) : Option Bool := gq142.F (fun y0 => some y0) record
def gq142.out : Bool → CRes := fun a => ⟨encL SV.enc [.one (.bool)] (a, ()), [encL SC.enc [] ()]⟩
def gq142.ps : List PS := [.val [none]]
def gq142.sA : List SA := [.v (.one (.str))]
def gq142.fi : FI := FIs gq142.sA (Bool) (fun t => gq142 t.1) gq142.out gq142.ps
def gq142.E : Env := ⟨tt, lkF [], 6, 0, [], []⟩
theorem gq142.hok (hE : EOk Tryz.prog (gq142.E)) : HintOk Tryz.prog gq142.E (u5 Tryz.f142) (.a) := HintOk.n1 (Q := True) (by kernel_rfl) trivial
theorem gq142.hE : EOk Tryz.prog (gq142.E) := EOk.of ttOk (trivial)
theorem gq142.fok : FOk Tryz.prog 142 gq142.fi :=
 fokS (E := gq142.E) (wy := ⟨[[none]], [[]], []⟩) (h := (fun gs => .a)) (G := fun t g => gq142.F (fun y0 => g y0) t.1) (by kernel_rfl) gq142.hE Tryz.func142 (by kernel_rfl) rfl (Nat.le_refl _) (fun t => HintOk.n1 (by kernel_rfl) (gq142.hok gq142.hE)) (fun t g => gq142.N g (fun y0 => some y0) _) (fun t => by kernel_rfl)
def gq191.F {R : Type} (kk : ByteArray → ByteArray → Bool → Option R) (r_s : ByteArray) (w9b : Bool) (many : Int) : Option R :=
 cond (w9b) (kk ByteArray.empty r_s true) (
  cond (decide (many > (ByteArray.size r_s : Int))) (kk ByteArray.empty r_s true) (
   grd (gSl (0 : Int) many (ByteArray.size r_s)) <|
   grd (gSl many (ByteArray.size r_s : Int) (ByteArray.size r_s)) <|
   kk (cut r_s (0 : Int) many) (cut r_s many (ByteArray.size r_s : Int)) w9b))
theorem gq191.N (kk : ByteArray → ByteArray → Bool → Option R) (r_s w9b many) : gq191.F (fun y0 y1 y2 => (kk y0 y1 y2).bind g) r_s w9b many = (gq191.F kk r_s w9b many).bind g := by
 simp only [gq191.F, u6, u9, uc, u7]
def gq191 (r_s : ByteArray) (w9b : Bool) (many : Int) : Option (ByteArray × ByteArray × Bool) := gq191.F (fun y0 y1 y2 => some (y0, y1, y2)) r_s w9b many
def gq191.out : (ByteArray × ByteArray × Bool) → CRes := fun a => ⟨encL SV.enc [.one (.str)] (a.1, ()), [encL SC.enc [.str, .bool] (a.2.1, a.2.2, ()), encL SC.enc [] ()]⟩
def gq191.ps : List PS := [.ptr [none, none], .val [none]]
def gq191.sA : List SA := [.ptr [.str, .bool], .v (.one (.int .i64))]
def gq191.fi : FI := FIs gq191.sA (ByteArray × ByteArray × Bool) (fun t => gq191 t.1.1 t.1.2.1 t.2.1) gq191.out gq191.ps
def gq191.E : Env := ⟨tt, lkF [], 38, 1, [], []⟩
theorem gq191.hok (hE : EOk Tryz.prog (gq191.E)) : HintOk Tryz.prog gq191.E (u5 Tryz.f191) (.a) := HintOk.n1 (Q := True) (by kernel_rfl) trivial
theorem gq191.hE : EOk Tryz.prog (gq191.E) := EOk.of ttOk (trivial)
theorem gq191.fok : FOk Tryz.prog 191 gq191.fi :=
 fokS (E := gq191.E) (wy := ⟨[[none]], [[none, none], []], []⟩) (h := (fun gs => .a)) (G := fun t g => gq191.F (fun y0 y1 y2 => g (y0, y1, y2)) t.1.1 t.1.2.1 t.2.1) (by kernel_rfl) gq191.hE Tryz.func191 (by kernel_rfl) rfl (Nat.le_refl _) (fun t => HintOk.n1 (by kernel_rfl) (gq191.hok gq191.hE)) (fun t g => gq191.N g (fun y0 y1 y2 => some (y0, y1, y2)) _ _ _) (fun t => by kernel_rfl)
def gq182.F {R : Type} (kk : Int → ByteArray → Bool → Option R) (r_s : ByteArray) (w9b : Bool) (many : Int) : Option R :=
 (gq191 r_s w9b many).bind fun r =>
 (gq103 r.1).bind fun r1 =>
 kk r1 r.2.1 r.2.2
theorem gq182.N (kk : Int → ByteArray → Bool → Option R) (r_s w9b many) : gq182.F (fun y0 y1 y2 => (kk y0 y1 y2).bind g) r_s w9b many = (gq182.F kk r_s w9b many).bind g := by
 simp only [gq182.F, u6, u9, uc, u7]
def gq182 (r_s : ByteArray) (w9b : Bool) (many : Int) : Option (Int × ByteArray × Bool) := gq182.F (fun y0 y1 y2 => some (y0, y1, y2)) r_s w9b many
def gq182.out : (Int × ByteArray × Bool) → CRes := fun a => ⟨encL SV.enc [.one (.int .i64)] (a.1, ()), [encL SC.enc [.str, .bool] (a.2.1, a.2.2, ()), encL SC.enc [] ()]⟩
def gq182.ps : List PS := [.ptr [none, none], .val [none]]
def gq182.sA : List SA := [.ptr [.str, .bool], .v (.one (.int .i64))]
def gq182.fi : FI := FIs gq182.sA (Int × ByteArray × Bool) (fun t => gq182 t.1.1 t.1.2.1 t.2.1) gq182.out gq182.ps
def gq182.E : Env := ⟨tt, lkF [(103, gq103.fi), (191, gq191.fi)], 9, 1, [], []⟩
theorem gq182.hok (hE : EOk Tryz.prog (gq182.E)) : HintOk Tryz.prog gq182.E (u5 Tryz.f182) (.a) := HintOk.n1 (Q := True) (by kernel_rfl) trivial
theorem gq182.hE : EOk Tryz.prog (gq182.E) := EOk.of ttOk (⟨gq103.fok, ⟨gq191.fok, trivial⟩⟩)
theorem gq182.fok : FOk Tryz.prog 182 gq182.fi :=
 fokS (E := gq182.E) (wy := ⟨[[none]], [[none, none], []], []⟩) (h := (fun gs => .a)) (G := fun t g => gq182.F (fun y0 y1 y2 => g (y0, y1, y2)) t.1.1 t.1.2.1 t.2.1) (by kernel_rfl) gq182.hE Tryz.func182 (by kernel_rfl) rfl (Nat.le_refl _) (fun t => HintOk.n1 (by kernel_rfl) (gq182.hok gq182.hE)) (fun t g => gq182.N g (fun y0 y1 y2 => some (y0, y1, y2)) _ _ _) (fun t => by kernel_rfl)
def gq183.F {R : Type} (kk : ByteArray → ByteArray → Bool → Option R) (r_s : ByteArray) (w9b : Bool) : Option R :=
 (gq182 r_s w9b (1 : Int)).bind fun r =>
 (gq191 r.2.1 r.2.2 r.1).bind fun r1 =>
 kk r1.1 r1.2.1 r1.2.2
theorem gq183.N (kk : ByteArray → ByteArray → Bool → Option R) (r_s w9b) : gq183.F (fun y0 y1 y2 => (kk y0 y1 y2).bind g) r_s w9b = (gq183.F kk r_s w9b).bind g := by
 simp only [gq183.F, u6, u9, uc, u7]
def gq183 (r_s : ByteArray) (w9b : Bool) : Option (ByteArray × ByteArray × Bool) := gq183.F (fun y0 y1 y2 => some (y0, y1, y2)) r_s w9b
def gq183.out : (ByteArray × ByteArray × Bool) → CRes := fun a => ⟨encL SV.enc [.one (.str)] (a.1, ()), [encL SC.enc [.str, .bool] (a.2.1, a.2.2, ())]⟩
def gq183.ps : List PS := [.ptr [none, none]]
def gq183.sA : List SA := [.ptr [.str, .bool]]
def gq183.fi : FI := FIs gq183.sA (ByteArray × ByteArray × Bool) (fun t => gq183 t.1.1 t.1.2.1) gq183.out gq183.ps
def gq183.E : Env := ⟨tt, lkF [(182, gq182.fi), (191, gq191.fi)], 7, 1, [], []⟩
theorem gq183.hok (hE : EOk Tryz.prog (gq183.E)) : HintOk Tryz.prog gq183.E (u5 Tryz.f183) (.a) := HintOk.n1 (Q := True) (by kernel_rfl) trivial
theorem gq183.hE : EOk Tryz.prog (gq183.E) := EOk.of ttOk (⟨gq182.fok, ⟨gq191.fok, trivial⟩⟩)
theorem gq183.fok : FOk Tryz.prog 183 gq183.fi :=
 fokS (E := gq183.E) (wy := ⟨[[none]], [[none, none]], []⟩) (h := (fun gs => .a)) (G := fun t g => gq183.F (fun y0 y1 y2 => g (y0, y1, y2)) t.1.1 t.1.2.1) (by kernel_rfl) gq183.hE Tryz.func183 (by kernel_rfl) rfl (Nat.le_refl _) (fun t => HintOk.n1 (by kernel_rfl) (gq183.hok gq183.hE)) (fun t g => gq183.N g (fun y0 y1 y2 => some (y0, y1, y2)) _ _) (fun t => by kernel_rfl)
def gq164.F {R : Type} (kk : Int → Int → ByteArray → Bool → Option R) (s : ByteArray) : Option R :=
 (gq182 s false (4 : Int)).bind fun r =>
 (gq182 r.2.1 r.2.2 (1 : Int)).bind fun r1 =>
 (gq183 r1.2.1 r1.2.2).bind fun r2 =>
 cond (!r2.2.2) (
  cond (sEq r2.2.1 ByteArray.empty) (
   (gq146 r.1 r1.1 r2.1).bind fun r3 =>
   kk r.1 r1.1 r2.1 r3) (kk r.1 r1.1 r2.1 false)) (kk r.1 r1.1 r2.1 false)
theorem gq164.N (kk : Int → Int → ByteArray → Bool → Option R) (s) : gq164.F (fun y0 y1 y2 y3 => (kk y0 y1 y2 y3).bind g) s = (gq164.F kk s).bind g := by
 simp only [gq164.F, u6, u9, uc, u7]
def gq164 (s : ByteArray) : Option (Int × Int × ByteArray × Bool) := gq164.F (fun y0 y1 y2 y3 => some (y0, y1, y2, y3)) s
def gq164.out : (Int × Int × ByteArray × Bool) → CRes := fun a => ⟨encL SV.enc [.agg [.int .i64, .int .i64, .str], .one (.bool)] ((a.1, a.2.1, a.2.2.1, ()), a.2.2.2, ()), [encL SC.enc [] ()]⟩
def gq164.ps : List PS := [.val [none]]
def gq164.sA : List SA := [.v (.one (.str))]
def gq164.fi : FI := FIs gq164.sA (Int × Int × ByteArray × Bool) (fun t => gq164 t.1) gq164.out gq164.ps
def gq164.E : Env := ⟨tt, lkF [(146, gq146.fi), (182, gq182.fi), (183, gq183.fi)], 36, 0, [], []⟩
theorem gq164.hok (hE : EOk Tryz.prog (gq164.E)) : HintOk Tryz.prog gq164.E (u5 Tryz.f164) (.a) := HintOk.n1 (Q := True) (by kernel_rfl) trivial
theorem gq164.hE : EOk Tryz.prog (gq164.E) := EOk.of ttOk (⟨gq146.fok, ⟨gq182.fok, ⟨gq183.fok, trivial⟩⟩⟩)
theorem gq164.fok : FOk Tryz.prog 164 gq164.fi :=
 fokS (E := gq164.E) (wy := ⟨[[none, none, none], [none]], [[]], []⟩) (h := (fun gs => .a)) (G := fun t g => gq164.F (fun y0 y1 y2 y3 => g (y0, y1, y2, y3)) t.1) (by kernel_rfl) gq164.hE Tryz.func164 (by kernel_rfl) rfl (Nat.le_refl _) (fun t => HintOk.n1 (by kernel_rfl) (gq164.hok gq164.hE)) (fun t g => gq164.N g (fun y0 y1 y2 y3 => some (y0, y1, y2, y3)) _) (fun t => by kernel_rfl)
end
end Go.Proofs.YtaanadbpnmcbcaaGreatDoorA
