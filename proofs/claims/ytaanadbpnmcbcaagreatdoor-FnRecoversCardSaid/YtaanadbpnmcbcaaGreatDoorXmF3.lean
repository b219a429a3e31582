/-
  Functions of the program, and that the small machine's runs are these. No condition.
  Printed by wip/amp/main.py (a session's own program) out of Lean's print of the program; Lean's kernel checks it.
-/
import Derived.Test.YtaanadbpnmcbcaaGreatDoorXmF2
namespace Go.Proofs.YtaanadbpnmcbcaaGreatDoorA
open Go
noncomputable section
set_option linter.unusedVariables false
set_option linter.unusedSimpArgs false
set_option maxRecDepth 100000
variable {R S : Type} (g : R → Option S)
def gq143.F {R : Type} (kk : Bool → Int → Int → List (El ue) → Option R) (w99 : Int) (w9a : Int) (w98 : List (El ue)) (record : ByteArray) : Option R :=
 cond (sEq record ByteArray.empty) (kk false w99 w9a w98) (
  grd (gSl (1 : Int) (ByteArray.size record : Int) (ByteArray.size record)) <|
  grd (gIx (0 : Int) (ByteArray.size record)) <|
  cond ((u21 record (0 : Int)) == (84 : Int)) (
   cond ((ByteArray.size (cut record (1 : Int) (ByteArray.size record : Int)) : Int) != (5 : Int)) (kk false w99 w9a w98) (
    grd (gSl (0 : Int) (4 : Int) (ByteArray.size (cut record (1 : Int) (ByteArray.size record : Int)))) <|
    (gq103 (cut (cut record (1 : Int) (ByteArray.size record : Int)) (0 : Int) (4 : Int))).bind fun r =>
    grd (gSl (4 : Int) (ByteArray.size (cut record (1 : Int) (ByteArray.size record : Int)) : Int) (ByteArray.size (cut record (1 : Int) (ByteArray.size record : Int)))) <|
    (gq103 (cut (cut record (1 : Int) (ByteArray.size record : Int)) (4 : Int) (ByteArray.size (cut record (1 : Int) (ByteArray.size record : Int)) : Int))).bind fun r1 =>
    kk true r (IntKind.wrap .i64 (r1 - (1 : Int))) w98)) (
   cond ((u21 record (0 : Int)) == (67 : Int)) (
    (gq103 (cut record (1 : Int) (ByteArray.size record : Int))).bind fun r2 =>
    cond ((ByteArray.size (cut record (1 : Int) (ByteArray.size record : Int)) : Int) != (4 : Int)) (kk false w99 w9a w98) (
     cond (decide (r2 > (List.length w98 : Int))) (kk false w99 w9a w98) (
      grd (gSl (0 : Int) r2 (List.length w98)) <|
      kk true w99 w9a (sub w98 (0 : Int) r2)))) (
    cond ((u21 record (0 : Int)) == (69 : Int)) (
     (gq164 (cut record (1 : Int) (ByteArray.size record : Int))).bind fun r3 =>
     grd (gRm (((List.length w98) + (List.length [(r3.1, (r3.2.1, r3.2.2.1))])) * 32)) <|
     cond (r3.2.2.2) (
      kk (decide ((List.length (w98 ++ [(r3.1, (r3.2.1, r3.2.2.1))]) : Int) ≤ (60 : Int))) w99 w9a (w98 ++ [(r3.1, (r3.2.1, r3.2.2.1))])) (kk false w99 w9a (w98 ++ [(r3.1, (r3.2.1, r3.2.2.1))]))) (kk false w99 w9a w98))))
theorem gq143.N (kk : Bool → Int → Int → List (El ue) → Option R) (w99 w9a w98 record) : gq143.F (fun y0 y1 y2 y3 => (kk y0 y1 y2 y3).bind g) w99 w9a w98 record = (gq143.F kk w99 w9a w98 record).bind g := by
 simp only [gq143.F, u6, u9, uc, u7]
def gq143 (w99 : Int) (w9a : Int) (w98 : List (El ue)) (record : ByteArray) : Option (Bool × Int × Int × List (El ue)) := gq143.F (fun y0 y1 y2 y3 => some (y0, y1, y2, y3)) w99 w9a w98 record
def gq143.out : (Bool × Int × Int × List (El ue)) → CRes := fun a => ⟨encL SV.enc [.one (.bool)] (a.1, ()), [encL SC.enc [.int .i64, .int .i64, .own [] ue true] (a.2.1, a.2.2.1, a.2.2.2, ()), encL SC.enc [] ()]⟩
def gq143.ps : List PS := [.ptr [none, none, some (ue, true)], .val [none]]
def gq143.sA : List SA := [.ptr [.int .i64, .int .i64, .own [] ue true], .v (.one (.str))]
def gq143.fi : FI := FIs gq143.sA (Bool × Int × Int × List (El ue)) (fun t => gq143 t.1.1 t.1.2.1 t.1.2.2.1 t.2.1) gq143.out gq143.ps
def gq143.E : Env := ⟨tt, lkF [(103, gq103.fi), (164, gq164.fi)], 84, 1, [], [55]⟩
theorem gq143.hok (hE : EOk Tryz.prog (gq143.E)) : HintOk Tryz.prog gq143.E (u5 Tryz.f143) (.a) := HintOk.n1 (Q := True) (by kernel_rfl) trivial
theorem gq143.hE : EOk Tryz.prog (gq143.E) := EOk.of ttOk (⟨gq103.fok, ⟨gq164.fok, trivial⟩⟩)
theorem gq143.fok : FOk Tryz.prog 143 gq143.fi :=
 fokS (E := gq143.E) (wy := ⟨[[none]], [[none, none, some (ue, true)], []], []⟩) (h := (fun gs => .a)) (G := fun t g => gq143.F (fun y0 y1 y2 y3 => g (y0, y1, y2, y3)) t.1.1 t.1.2.1 t.1.2.2.1 t.2.1) (by kernel_rfl) gq143.hE Tryz.func143 (by kernel_rfl) rfl (Nat.le_refl _) (fun t => HintOk.n1 (by kernel_rfl) (gq143.hok gq143.hE)) (fun t g => gq143.N g (fun y0 y1 y2 y3 => some (y0, y1, y2, y3)) _ _ _ _) (fun t => by kernel_rfl)
def gq144.F {R : Type} (kk : List (El ue) → Option R) (s : List (El ue)) : Option R :=
 cond (List.isEmpty s) (
  ub5 (kk []) (
   grd (gRm (((List.length ([] : List (El ue))) + (List.length s)) * 32)) <|
   kk (([] : List (El ue)) ++ s))) (
  grd (gRm (((List.length ([] : List (El ue))) + (List.length s)) * 32)) <|
  kk (([] : List (El ue)) ++ s))
theorem gq144.N (kk : List (El ue) → Option R) (s) : gq144.F (fun y0 => (kk y0).bind g) s = (gq144.F kk s).bind g := by
 cases s with
 | nil =>
  have e : ∀ {R : Type} (k : List (El ue) → Option R), gq144.F k [] = ub5 (k []) (k []) := fun k => by kernel_rfl
  rw [e, e, u50, u50]
 | cons x l => simp only [gq144.F, List.isEmpty_cons, cond_false, u6]
def gq144 (s : List (El ue)) : Option (List (El ue)) := gq144.F (fun y0 => some y0) s
def gq144.out : (List (El ue)) → CRes := fun a => ⟨encL SV.enc [.one (.own [] ue true)] (a, ()), [encL SC.enc [] ()]⟩
def gq144.ps : List PS := [.val [some (ue, false)]]
def gq144.sA : List SA := [.v (.one (.slv [] ue))]
def gq144.fi : FI := FIs gq144.sA (List (El ue)) (fun t => gq144 t.1) gq144.out gq144.ps
def gq144.E : Env := ⟨tt, lkF [], 8, 0, [], []⟩
theorem gq144.hok (hE : EOk Tryz.prog (gq144.E)) : HintOk Tryz.prog gq144.E (u5 Tryz.f144) (.a) := HintOk.n1 (Q := True) (by kernel_rfl) trivial
theorem gq144.hE : EOk Tryz.prog (gq144.E) := EOk.of ttOk (trivial)
theorem gq144.fok : FOk Tryz.prog 144 gq144.fi :=
 fokS (E := gq144.E) (wy := ⟨[[some (ue, true)]], [[]], []⟩) (h := (fun gs => .a)) (G := fun t g => gq144.F (fun y0 => g y0) t.1) (by kernel_rfl) gq144.hE Tryz.func144 (by kernel_rfl) rfl (Nat.le_refl _) (fun t => HintOk.n1 (by kernel_rfl) (gq144.hok gq144.hE)) (fun t g => gq144.N g (fun y0 => some y0) _) (fun t => by kernel_rfl)
def gq87.l1 {R : Type} (kke0 : Int → Int → Int → Int → List (El ue) → Option R) (kkr : Int → Int → Int → Option R) : Nat → List ByteArray → Int → Int → Int → Int → Int → Int → List (El ue) → Option R
 | 0, _, _, _, _, _, _, _, _ => none
 | n + 1, l, i, i1, i2, i3, s, s1, l1 =>
  cond (decide (i1 < i)) (
   grd (gIx i1 (List.length l)) <|
   (gq143 s s1 l1 (rdE (.str : Kd) l (Int.toNat i1))).bind fun r =>
   cond (!r.1) (kkr (3 : Int) (0 : Int) (0 : Int)) (
    gq87.l1 kke0 kkr n l i (IntKind.wrap .i64 (i1 + (1 : Int))) i2 i3 r.2.1 r.2.2.1 r.2.2.2)) (kke0 i2 i3 s s1 l1)
theorem gq87.l1_nat (kke0 : Int → Int → Int → Int → List (El ue) → Option R) (kkr : Int → Int → Int → Option R) : ∀ n l i i1 i2 i3 s s1 l1, gq87.l1 (fun y0 y1 y2 y3 y4 => (kke0 y0 y1 y2 y3 y4).bind g) (fun y0 y1 y2 => (kkr y0 y1 y2).bind g) n l i i1 i2 i3 s s1 l1 = (gq87.l1 kke0 kkr n l i i1 i2 i3 s s1 l1).bind g := by
 intro n
 induction n with
 | zero => intros; rfl
 | succ n ih => intros; simp only [gq87.l1, u6, u9, uc, u7, ih]
def gq87.F {R : Type} (kk : Int → Int → List (El ue) → Int → Option R) (list : List ByteArray) : Option R :=
 (gq117 list (fun t => (gq142 t.1).bind fun a => some (a, ()))).bind fun r =>
 cond (r) (kk (0 : Int) (0 : Int) [] (4 : Int)) (
  gq87.l1 (fun i i1 s s1 l =>
   (gq47 s s1 l).bind fun r1 =>
   cond (!r1) (kk (0 : Int) (0 : Int) [] (3 : Int)) (
    (gq144 l).bind fun r2 =>
    kk s s1 r2 (0 : Int))) (fun i2 i3 i4 => kk i3 i4 [] i2) fuel list (List.length list : Int) (0 : Int) (0 : Int) (0 : Int) (0 : Int) (-1 : Int) [])
theorem gq87.N (kk : Int → Int → List (El ue) → Int → Option R) (list) : gq87.F (fun y0 y1 y2 y3 => (kk y0 y1 y2 y3).bind g) list = (gq87.F kk list).bind g := by
 simp only [gq87.F, u6, u9, uc, u7, ← gq87.l1_nat]
def gq87 (list : List ByteArray) : Option (Int × Int × List (El ue) × Int) := gq87.F (fun y0 y1 y2 y3 => some (y0, y1, y2, y3)) list
def gq87.out : (Int × Int × List (El ue) × Int) → CRes := fun a => ⟨encL SV.enc [.agg [.int .i64, .int .i64, .own [] ue true], .one (.int .i64)] ((a.1, a.2.1, a.2.2.1, ()), a.2.2.2, ()), [encL SC.enc [] ()]⟩
def gq87.ps : List PS := [.val [some (.str, false)]]
def gq87.sA : List SA := [.v (.one (.slv [] .str))]
def gq87.fi : FI := FIs gq87.sA (Int × Int × List (El ue) × Int) (fun t => gq87 t.1) gq87.out gq87.ps
def gq87.E : Env := ⟨tt, lkF [(47, gq47.fi), (117, gq117.fi), (142, gq142.fi), (143, gq143.fi), (144, gq144.fi)], 34, 0, [], []⟩
def gq87.sh1 : SK := ⟨[.v (.one (.bptr 0 0)), .v (.one (.bptr 1 0)), .v (.one (.slv [1] .str)), .v (.one (.int .i64)), .v (.one (.int .i64))], [.box [.int .i64, .int .i64, .nil], .box [.int .i64, .int .i64, .slo 2], .arr ue [] true]⟩
def gq87.sh1e0 : SK := ⟨[.v (.one (.bptr 0 0)), .v (.one (.bptr 1 0))], [.box [.int .i64, .int .i64, .nil], .box [.int .i64, .int .i64, .slo 2], .arr ue [] true]⟩
def gq87.sh1r : SK := ⟨[.v (.one (.bptr 0 0)), .v (.one (.int .i64))], [.box [.int .i64, .int .i64, .nil]]⟩
def gq87.ko1 : Ex → List u16 × List Nat
 | .nrm => ([], [])
 | .ret => ([], [2, 3])
 | .ext i => cond (Nat.beq i 0) ([], [2, 4]) ([], [])
def gq87.G1 (n : Nat) (R : Type) (t : gq87.sh1.T) (K : Ex → Kp → Option R) : Option R := gq87.l1 (fun y0 y1 y2 y3 y4 => K (.ext 0) (SK.enc gq87.sh1e0 (((), (), ()), ((y0, y1, (), ()), (y2, y3, (), ()), y4, ())))) (fun y0 y1 y2 => K .ret (SK.enc gq87.sh1r (((), y0, ()), ((y1, y2, (), ()), ())))) n t.1.2.2.1 t.1.2.2.2.1 t.1.2.2.2.2.1 t.2.1.1 t.2.1.2.1 t.2.2.1.1 t.2.2.1.2.1 t.2.2.2.1
def gq87.S1 : Sum := ⟨([⟨4, true, 2, .own ue⟩], [2, 4, 11, 12, 13]), sumF gq87.sh1 (gq87.G1 fuel), gq87.ko1⟩
theorem gq87.ok1 (hE : EOk Tryz.prog (gq87.E)) : u15 Tryz.prog gq87.E (cB (cR (cL (cR (cR (cR (u5 Tryz.f87))))))) (gq87.S1) := by
 have hh : HintOk Tryz.prog gq87.E (cB (cB (cR (cL (cR (cR (cR (u5 Tryz.f87)))))))) (.a) := HintOk.n1 (Q := True) (by kernel_rfl) trivial
 have h := u2a (kin := ([⟨4, true, 2, .own ue⟩], [2, 4, 11, 12, 13])) (kout := gq87.ko1) (sh := gq87.sh1) (F := gq87.G1) (u1a (hE.gv _)) (by kernel_rfl) hh (fun _ _ _ => rfl) (fun n R t K => by kernel_rfl) fuel
 exact HintOk.n1 (c := (cB (cR (cL (cR (cR (cR (u5 Tryz.f87)))))))) (h := .s (gq87.S1)) (P := Tryz.prog) (E := gq87.E) (by kernel_rfl) h
theorem gq87.hok (hE : EOk Tryz.prog (gq87.E)) : HintOk Tryz.prog gq87.E (u5 Tryz.f87) (.n (.a) (.n (.a) (.n (.a) (.n (.n (.a) (.b (.s (gq87.S1)))) (.a))))) := HintOk.n1 (Q := (True) ∧ ((True) ∧ ((True) ∧ (((True) ∧ (u15 Tryz.prog gq87.E (cB (cR (cL (cR (cR (cR (u5 Tryz.f87))))))) (gq87.S1))) ∧ (True))))) (by kernel_rfl) ⟨trivial, ⟨trivial, ⟨trivial, ⟨⟨trivial, (gq87.ok1 hE)⟩, trivial⟩⟩⟩⟩
theorem gq87.hE : EOk Tryz.prog (gq87.E) := EOk.of ttOk (⟨gq47.fok, ⟨gq117.fok, ⟨gq142.fok, ⟨gq143.fok, ⟨gq144.fok, trivial⟩⟩⟩⟩⟩)
theorem gq87.fok : FOk Tryz.prog 87 gq87.fi :=
 fokS (E := gq87.E) (wy := ⟨[[none, none, some (ue, true)], [none]], [[]], []⟩) (h := (fun gs => .n (.a) (.n (.a) (.n (.a) (.n (.n (.a) (.b (.s (gq87.S1)))) (.a)))))) (G := fun t g => gq87.F (fun y0 y1 y2 y3 => g (y0, y1, y2, y3)) t.1) (by kernel_rfl) gq87.hE Tryz.func87 (by kernel_rfl) rfl (Nat.le_refl _) (fun t => HintOk.n1 (by kernel_rfl) (gq87.hok gq87.hE)) (fun t g => gq87.N g (fun y0 y1 y2 y3 => some (y0, y1, y2, y3)) _) (fun t => by kernel_rfl)
def gq41.F {R : Type} (kk : Int → Int → List (El ue) → Int → Option R) (w94 : Int) (w93 : List (El u4)) : Option R :=
 (gq21 w94 w93).bind fun r =>
 cond (r.2.2.2.2 != (0 : Int)) (kk (0 : Int) (0 : Int) [] r.2.2.2.2) (
  (gq87 r.2.1).bind fun r1 =>
  cond (r1.2.2.2 != (0 : Int)) (kk (0 : Int) (0 : Int) [] (3 : Int)) (kk r1.1 r1.2.1 r1.2.2.1 (0 : Int)))
theorem gq41.N (kk : Int → Int → List (El ue) → Int → Option R) (w94 w93) : gq41.F (fun y0 y1 y2 y3 => (kk y0 y1 y2 y3).bind g) w94 w93 = (gq41.F kk w94 w93).bind g := by
 simp only [gq41.F, u6, u9, uc, u7]
def gq41 (w94 : Int) (w93 : List (El u4)) : Option (Int × Int × List (El ue) × Int) := gq41.F (fun y0 y1 y2 y3 => some (y0, y1, y2, y3)) w94 w93
def gq41.out : (Int × Int × List (El ue) × Int) → CRes := fun a => ⟨encL SV.enc [.agg [.int .i64, .int .i64, .own [] ue true], .one (.int .i64)] ((a.1, a.2.1, a.2.2.1, ()), a.2.2.2, ()), [encL SC.enc [] ()]⟩
def gq41.ps : List PS := [.val [none, some (u4, false)]]
def gq41.sA : List SA := [.v (.agg [.int .i64, .slv [] u4])]
def gq41.fi : FI := FIs gq41.sA (Int × Int × List (El ue) × Int) (fun t => gq41 t.1.1 t.1.2.1) gq41.out gq41.ps
def gq41.E : Env := ⟨tt, lkF [(21, gq21.fi), (87, gq87.fi)], 26, 0, [], []⟩
theorem gq41.hok (hE : EOk Tryz.prog (gq41.E)) : HintOk Tryz.prog gq41.E (u5 Tryz.f41) (.a) := HintOk.n1 (Q := True) (by kernel_rfl) trivial
theorem gq41.hE : EOk Tryz.prog (gq41.E) := EOk.of ttOk (⟨gq21.fok, ⟨gq87.fok, trivial⟩⟩)
theorem gq41.fok : FOk Tryz.prog 41 gq41.fi :=
 fokS (E := gq41.E) (wy := ⟨[[none, none, some (ue, true)], [none]], [[]], []⟩) (h := (fun gs => .a)) (G := fun t g => gq41.F (fun y0 y1 y2 y3 => g (y0, y1, y2, y3)) t.1.1 t.1.2.1) (by kernel_rfl) gq41.hE Tryz.func41 (by kernel_rfl) rfl (Nat.le_refl _) (fun t => HintOk.n1 (by kernel_rfl) (gq41.hok gq41.hE)) (fun t g => gq41.N g (fun y0 y1 y2 y3 => some (y0, y1, y2, y3)) _ _) (fun t => by kernel_rfl)
def gq184.F {R : Type} (kk : ByteArray → List Int → Int → Bool → Option R) (r_b : List Int) (wae : Int) (w9b : Bool) (n_ : Int) : Option R :=
 cond (w9b) (kk ByteArray.empty r_b wae true) (
  cond (decide (n_ < (0 : Int))) (kk ByteArray.empty r_b wae true) (
   cond (decide ((IntKind.wrap .i64 (wae + n_)) > (List.length r_b : Int))) (kk ByteArray.empty r_b wae true) (
    grd (gSl (IntKind.wrap .i64 ((IntKind.wrap .i64 (wae + n_)) - n_)) (IntKind.wrap .i64 (wae + n_)) (List.length r_b)) <|
    kk (strL (sub r_b (IntKind.wrap .i64 ((IntKind.wrap .i64 (wae + n_)) - n_)) (IntKind.wrap .i64 (wae + n_)))) r_b (IntKind.wrap .i64 (wae + n_)) w9b)))
theorem gq184.N (kk : ByteArray → List Int → Int → Bool → Option R) (r_b wae w9b n_) : gq184.F (fun y0 y1 y2 y3 => (kk y0 y1 y2 y3).bind g) r_b wae w9b n_ = (gq184.F kk r_b wae w9b n_).bind g := by
 simp only [gq184.F, u6, u9, uc, u7]
def gq184 (r_b : List Int) (wae : Int) (w9b : Bool) (n_ : Int) : Option (ByteArray × List Int × Int × Bool) := gq184.F (fun y0 y1 y2 y3 => some (y0, y1, y2, y3)) r_b wae w9b n_
def gq184.out : (ByteArray × List Int × Int × Bool) → CRes := fun a => ⟨encL SV.enc [.one (.str)] (a.1, ()), [encL SC.enc [.slv [1] (.int .u8), .int .i64, .bool] (a.2.1, a.2.2.1, a.2.2.2, ()), encL SC.enc [] ()]⟩
def gq184.ps : List PS := [.ptr [some ((.int .u8), false), none, none], .val [none]]
def gq184.sA : List SA := [.ptr [.slv [] (.int .u8), .int .i64, .bool], .v (.one (.int .i64))]
def gq184.fi : FI := FIs gq184.sA (ByteArray × List Int × Int × Bool) (fun t => gq184 t.1.1 t.1.2.1 t.1.2.2.1 t.2.1) gq184.out gq184.ps
def gq184.E : Env := ⟨tt, lkF [], 54, 1, [], []⟩
theorem gq184.hok (hE : EOk Tryz.prog (gq184.E)) : HintOk Tryz.prog gq184.E (u5 Tryz.f184) (.a) := HintOk.n1 (Q := True) (by kernel_rfl) trivial
theorem gq184.hE : EOk Tryz.prog (gq184.E) := EOk.of ttOk (trivial)
theorem gq184.fok : FOk Tryz.prog 184 gq184.fi :=
 fokS (E := gq184.E) (wy := ⟨[[none]], [[some ((.int .u8), false), none, none], []], []⟩) (h := (fun gs => .a)) (G := fun t g => gq184.F (fun y0 y1 y2 y3 => g (y0, y1, y2, y3)) t.1.1 t.1.2.1 t.1.2.2.1 t.2.1) (by kernel_rfl) gq184.hE Tryz.func184 (by kernel_rfl) rfl (Nat.le_refl _) (fun t => HintOk.n1 (by kernel_rfl) (gq184.hok gq184.hE)) (fun t g => gq184.N g (fun y0 y1 y2 y3 => some (y0, y1, y2, y3)) _ _ _ _) (fun t => by kernel_rfl)
def gq165.F {R : Type} (kk : Int → Int → ByteArray → Bool → Option R) (b : List Int) : Option R :=
 (gq98 b (0 : Int) false (4 : Int)).bind fun r =>
 (gq98 r.2.1 r.2.2.1 r.2.2.2 (1 : Int)).bind fun r1 =>
 (gq98 r1.2.1 r1.2.2.1 r1.2.2.2 (1 : Int)).bind fun r2 =>
 (gq184 r2.2.1 r2.2.2.1 r2.2.2.2 r2.1).bind fun r3 =>
 cond (!r3.2.2.2) (
  cond (r3.2.2.1 == (List.length b : Int)) (
   (gq132 r.1 r1.1 r3.1).bind fun r4 =>
   kk r.1 r1.1 r3.1 r4) (kk r.1 r1.1 r3.1 false)) (kk r.1 r1.1 r3.1 false)
theorem gq165.N (kk : Int → Int → ByteArray → Bool → Option R) (b) : gq165.F (fun y0 y1 y2 y3 => (kk y0 y1 y2 y3).bind g) b = (gq165.F kk b).bind g := by
 simp only [gq165.F, u6, u9, uc, u7]
def gq165 (b : List Int) : Option (Int × Int × ByteArray × Bool) := gq165.F (fun y0 y1 y2 y3 => some (y0, y1, y2, y3)) b
def gq165.out : (Int × Int × ByteArray × Bool) → CRes := fun a => ⟨encL SV.enc [.agg [.int .i64, .int .i64, .str], .one (.bool)] ((a.1, a.2.1, a.2.2.1, ()), a.2.2.2, ()), [encL SC.enc [] ()]⟩
def gq165.ps : List PS := [.val [some ((.int .u8), false)]]
def gq165.sA : List SA := [.v (.one (.slv [] (.int .u8)))]
def gq165.fi : FI := FIs gq165.sA (Int × Int × ByteArray × Bool) (fun t => gq165 t.1) gq165.out gq165.ps
def gq165.E : Env := ⟨tt, lkF [(98, gq98.fi), (132, gq132.fi), (184, gq184.fi)], 38, 0, [], []⟩
theorem gq165.hok (hE : EOk Tryz.prog (gq165.E)) : HintOk Tryz.prog gq165.E (u5 Tryz.f165) (.a) := HintOk.n1 (Q := True) (by kernel_rfl) trivial
theorem gq165.hE : EOk Tryz.prog (gq165.E) := EOk.of ttOk (⟨gq98.fok, ⟨gq132.fok, ⟨gq184.fok, trivial⟩⟩⟩)
theorem gq165.fok : FOk Tryz.prog 165 gq165.fi :=
 fokS (E := gq165.E) (wy := ⟨[[none, none, none], [none]], [[]], []⟩) (h := (fun gs => .a)) (G := fun t g => gq165.F (fun y0 y1 y2 y3 => g (y0, y1, y2, y3)) t.1) (by kernel_rfl) gq165.hE Tryz.func165 (by kernel_rfl) rfl (Nat.le_refl _) (fun t => HintOk.n1 (by kernel_rfl) (gq165.hok gq165.hE)) (fun t g => gq165.N g (fun y0 y1 y2 y3 => some (y0, y1, y2, y3)) _) (fun t => by kernel_rfl)
def gq145.F {R : Type} (kk : Int → Int → List (El ue) → Bool → Option R) (w99 : Int) (w9a : Int) (w98 : List (El ue)) (t_ : ByteArray) : Option R :=
 cond (sEq t_ ByteArray.empty) (kk w99 w9a w98 false) (
  grd (gIx (0 : Int) (ByteArray.size t_)) <|
  cond ((u21 t_ (0 : Int)) == (84 : Int)) (
   (gq98 (bytesL t_) (1 : Int) false (4 : Int)).bind fun r =>
   (gq98 r.2.1 r.2.2.1 r.2.2.2 (1 : Int)).bind fun r1 =>
   cond (!r1.2.2.2) (kk r.1 (IntKind.wrap .i64 (r1.1 - (1 : Int))) w98 (r1.2.2.1 == (ByteArray.size t_ : Int))) (kk r.1 (IntKind.wrap .i64 (r1.1 - (1 : Int))) w98 false)) (
   cond ((u21 t_ (0 : Int)) == (67 : Int)) (
    (gq98 (bytesL t_) (1 : Int) false (4 : Int)).bind fun r2 =>
    cond (r2.2.2.2) (kk w99 w9a w98 false) (
     cond (r2.2.2.1 != (ByteArray.size t_ : Int)) (kk w99 w9a w98 false) (
      cond (decide (r2.1 > (List.length w98 : Int))) (kk w99 w9a w98 false) (
       grd (gSl (0 : Int) r2.1 (List.length w98)) <|
       grd (gRm (((List.length ([] : List (El ue))) + (List.length (sub w98 (0 : Int) r2.1))) * 32)) <|
       kk w99 w9a (([] : List (El ue)) ++ (sub w98 (0 : Int) r2.1)) true)))) (
    cond ((u21 t_ (0 : Int)) == (69 : Int)) (
     grd (gSl (1 : Int) (ByteArray.size t_ : Int) (ByteArray.size t_)) <|
     (gq165 (bytesL (cut t_ (1 : Int) (ByteArray.size t_ : Int)))).bind fun r3 =>
     grd (gRm (((List.length ([] : List (El ue))) + (List.length w98)) * 32)) <|
     grd (gRm (((List.length (([] : List (El ue)) ++ w98)) + (List.length [(r3.1, (r3.2.1, r3.2.2.1))])) * 32)) <|
     kk w99 w9a ((([] : List (El ue)) ++ w98) ++ [(r3.1, (r3.2.1, r3.2.2.1))]) r3.2.2.2) (kk w99 w9a w98 false))))
theorem gq145.N (kk : Int → Int → List (El ue) → Bool → Option R) (w99 w9a w98 t_) : gq145.F (fun y0 y1 y2 y3 => (kk y0 y1 y2 y3).bind g) w99 w9a w98 t_ = (gq145.F kk w99 w9a w98 t_).bind g := by
 simp only [gq145.F, u6, u9, uc, u7]
def gq145 (w99 : Int) (w9a : Int) (w98 : List (El ue)) (t_ : ByteArray) : Option (Int × Int × List (El ue) × Bool) := gq145.F (fun y0 y1 y2 y3 => some (y0, y1, y2, y3)) w99 w9a w98 t_
def gq145.out : (Int × Int × List (El ue) × Bool) → CRes := fun a => ⟨encL SV.enc [.agg [.int .i64, .int .i64, .slv [0, 1] ue], .one (.bool)] ((a.1, a.2.1, a.2.2.1, ()), a.2.2.2, ()), [encL SC.enc [] (), encL SC.enc [] ()]⟩
def gq145.ps : List PS := [.val [none, none, some (ue, false)], .val [none]]
def gq145.sA : List SA := [.v (.agg [.int .i64, .int .i64, .slv [] ue]), .v (.one (.str))]
def gq145.fi : FI := FIs gq145.sA (Int × Int × List (El ue) × Bool) (fun t => gq145 t.1.1 t.1.2.1 t.1.2.2.1 t.2.1) gq145.out gq145.ps
def gq145.E : Env := ⟨tt, lkF [(98, gq98.fi), (165, gq165.fi)], 96, 0, [], []⟩
theorem gq145.hok (hE : EOk Tryz.prog (gq145.E)) : HintOk Tryz.prog gq145.E (u5 Tryz.f145) (.a) := HintOk.n1 (Q := True) (by kernel_rfl) trivial
theorem gq145.hE : EOk Tryz.prog (gq145.E) := EOk.of ttOk (⟨gq98.fok, ⟨gq165.fok, trivial⟩⟩)
theorem gq145.fok : FOk Tryz.prog 145 gq145.fi :=
 fokS (E := gq145.E) (wy := ⟨[[none, none, some (ue, false)], [none]], [[], []], [⟨4, true, 2, .slv [0, 1] ue⟩]⟩) (h := (fun gs => .a)) (G := fun t g => gq145.F (fun y0 y1 y2 y3 => g (y0, y1, y2, y3)) t.1.1 t.1.2.1 t.1.2.2.1 t.2.1) (by kernel_rfl) gq145.hE Tryz.func145 (by kernel_rfl) rfl (Nat.le_refl _) (fun t => HintOk.n1 (by kernel_rfl) (gq145.hok gq145.hE)) (fun t g => gq145.N g (fun y0 y1 y2 y3 => some (y0, y1, y2, y3)) _ _ _ _) (fun t => by kernel_rfl)
def gq88.l1 {R : Type} (kke0 : Int → Int → Int → Int → List (El ue) → Option R) (kkr : Bool → Int → Int → List (El ue) → Option R) : Nat → List ByteArray → Int → Int → Int → Int → Int → List (El ue) → Option R
 | 0, _, _, _, _, _, _, _ => none
 | n + 1, list, i, i1, i2, s, s1, s2 =>
  cond (decide (i < (List.length list : Int))) (
   grd (gIx i (List.length list)) <|
   (gq145 s s1 s2 (rdE (.str : Kd) list (Int.toNat i))).bind fun r =>
   cond (!r.2.2.2) (kkr false s s1 s2) (
    cond (decide ((List.length r.2.2.1 : Int) > (60 : Int))) (kkr false s s1 s2) (
     gq88.l1 kke0 kkr n list (IntKind.wrap .i64 (i + (1 : Int))) i1 i2 r.1 r.2.1 r.2.2.1))) (kke0 i1 i2 s s1 s2)
theorem gq88.l1_nat (kke0 : Int → Int → Int → Int → List (El ue) → Option R) (kkr : Bool → Int → Int → List (El ue) → Option R) : ∀ n list i i1 i2 s s1 s2, gq88.l1 (fun y0 y1 y2 y3 y4 => (kke0 y0 y1 y2 y3 y4).bind g) (fun y0 y1 y2 y3 => (kkr y0 y1 y2 y3).bind g) n list i i1 i2 s s1 s2 = (gq88.l1 kke0 kkr n list i i1 i2 s s1 s2).bind g := by
 intro n
 induction n with
 | zero => intros; rfl
 | succ n ih => intros; simp only [gq88.l1, u6, u9, uc, u7, ih]
def gq88.F {R : Type} (kk : Int → Int → List (El ue) → Bool → Option R) (list : List ByteArray) : Option R :=
 gq88.l1 (fun i i1 s s1 s2 =>
  (gq79 s s1 s2).bind fun r =>
  kk s s1 s2 r) (fun b i2 i3 l => kk i2 i3 l b) fuel list (0 : Int) (0 : Int) (0 : Int) (0 : Int) (-1 : Int) ([] : List (El ue))
theorem gq88.N (kk : Int → Int → List (El ue) → Bool → Option R) (list) : gq88.F (fun y0 y1 y2 y3 => (kk y0 y1 y2 y3).bind g) list = (gq88.F kk list).bind g := by
 simp only [gq88.F, u6, u9, uc, u7, ← gq88.l1_nat]
def gq88 (list : List ByteArray) : Option (Int × Int × List (El ue) × Bool) := gq88.F (fun y0 y1 y2 y3 => some (y0, y1, y2, y3)) list
def gq88.out : (Int × Int × List (El ue) × Bool) → CRes := fun a => ⟨encL SV.enc [.agg [.int .i64, .int .i64, .slv [0] ue], .one (.bool)] ((a.1, a.2.1, a.2.2.1, ()), a.2.2.2, ()), [encL SC.enc [] ()]⟩
def gq88.ps : List PS := [.val [some (.str, false)]]
def gq88.sA : List SA := [.v (.one (.slv [] .str))]
def gq88.fi : FI := FIs gq88.sA (Int × Int × List (El ue) × Bool) (fun t => gq88 t.1) gq88.out gq88.ps
def gq88.E : Env := ⟨tt, lkF [(79, gq79.fi), (145, gq145.fi)], 38, 0, [], []⟩
def gq88.sh1 : SK := ⟨[.v (.one (.slv [1] .str)), .v (.one (.bptr 0 0)), .v (.one (.bptr 1 0)), .v (.one (.int .i64))], [.box [.int .i64, .int .i64, .nil], .box [.int .i64, .int .i64, .slv [0] ue]]⟩
def gq88.sh1e0 : SK := ⟨[.v (.one (.bptr 0 0)), .v (.one (.bptr 1 0))], [.box [.int .i64, .int .i64, .nil], .box [.int .i64, .int .i64, .slv [0] ue]]⟩
def gq88.sh1r : SK := ⟨[.v (.one (.bptr 0 0)), .v (.one (.bool))], [.box [.int .i64, .int .i64, .slv [0] ue]]⟩
def gq88.ko1 : Ex → List u16 × List Nat
 | .nrm => ([], [])
 | .ret => ([⟨2, true, 2, .slv [0] ue⟩], [2, 3])
 | .ext i => cond (Nat.beq i 0) ([], [2, 4]) ([], [])
def gq88.G1 (n : Nat) (R : Type) (t : gq88.sh1.T) (K : Ex → Kp → Option R) : Option R := gq88.l1 (fun y0 y1 y2 y3 y4 => K (.ext 0) (SK.enc gq88.sh1e0 (((), (), ()), ((y0, y1, (), ()), (y2, y3, y4, ()), ())))) (fun y0 y1 y2 y3 => K .ret (SK.enc gq88.sh1r (((), y0, ()), ((y1, y2, y3, ()), ())))) n t.1.1 t.1.2.2.2.1 t.2.1.1 t.2.1.2.1 t.2.2.1.1 t.2.2.1.2.1 t.2.2.1.2.2.1
def gq88.S1 : Sum := ⟨([⟨4, true, 2, .slv [0] ue⟩], [0, 2, 4, 5]), sumF gq88.sh1 (gq88.G1 fuel), gq88.ko1⟩
theorem gq88.ok1 (hE : EOk Tryz.prog (gq88.E)) : u15 Tryz.prog gq88.E (cB (cR (cL (cR (cR (u5 Tryz.f88)))))) (gq88.S1) := by
 have hh : HintOk Tryz.prog gq88.E (cB (cB (cR (cL (cR (cR (u5 Tryz.f88))))))) (.a) := HintOk.n1 (Q := True) (by kernel_rfl) trivial
 have h := u2a (kin := ([⟨4, true, 2, .slv [0] ue⟩], [0, 2, 4, 5])) (kout := gq88.ko1) (sh := gq88.sh1) (F := gq88.G1) (u1a (hE.gv _)) (by kernel_rfl) hh (fun _ _ _ => rfl) (fun n R t K => by kernel_rfl) fuel
 exact HintOk.n1 (c := (cB (cR (cL (cR (cR (u5 Tryz.f88))))))) (h := .s (gq88.S1)) (P := Tryz.prog) (E := gq88.E) (by kernel_rfl) h
theorem gq88.hok (hE : EOk Tryz.prog (gq88.E)) : HintOk Tryz.prog gq88.E (u5 Tryz.f88) (.n (.a) (.n (.a) (.n (.n (.a) (.b (.s (gq88.S1)))) (.a)))) := HintOk.n1 (Q := (True) ∧ ((True) ∧ (((True) ∧ (u15 Tryz.prog gq88.E (cB (cR (cL (cR (cR (u5 Tryz.f88)))))) (gq88.S1))) ∧ (True)))) (by kernel_rfl) ⟨trivial, ⟨trivial, ⟨⟨trivial, (gq88.ok1 hE)⟩, trivial⟩⟩⟩
theorem gq88.hE : EOk Tryz.prog (gq88.E) := EOk.of ttOk (⟨gq79.fok, ⟨gq145.fok, trivial⟩⟩)
theorem gq88.fok : FOk Tryz.prog 88 gq88.fi :=
 fokS (E := gq88.E) (wy := ⟨[[none, none, some (ue, false)], [none]], [[]], []⟩) (h := (fun gs => .n (.a) (.n (.a) (.n (.n (.a) (.b (.s (gq88.S1)))) (.a))))) (G := fun t g => gq88.F (fun y0 y1 y2 y3 => g (y0, y1, y2, y3)) t.1) (by kernel_rfl) gq88.hE Tryz.func88 (by kernel_rfl) rfl (Nat.le_refl _) (fun t => HintOk.n1 (by kernel_rfl) (gq88.hok gq88.hE)) (fun t g => gq88.N g (fun y0 y1 y2 y3 => some (y0, y1, y2, y3)) _) (fun t => by kernel_rfl)
def gq42.l1 {R : Type} (kke0 : List ByteArray → Int → Int → Option R) (kkr : Int → Int → Int → Option R) : Nat → List ByteArray → Int → Int → Int → Option R
 | 0, _, _, _, _ => none
 | n + 1, list, i, i1, i2 =>
  cond (decide (i < (List.length list : Int))) (
   grd (gIx i (List.length list)) <|
   cond (decide ((ByteArray.size (rdE (.str : Kd) list (Int.toNat i)) : Int) > (110 : Int))) (kkr (4 : Int) (0 : Int) (0 : Int)) (gq42.l1 kke0 kkr n list (IntKind.wrap .i64 (i + (1 : Int))) i1 i2)) (kke0 list i1 i2)
theorem gq42.l1_nat (kke0 : List ByteArray → Int → Int → Option R) (kkr : Int → Int → Int → Option R) : ∀ n list i i1 i2, gq42.l1 (fun y0 y1 y2 => (kke0 y0 y1 y2).bind g) (fun y0 y1 y2 => (kkr y0 y1 y2).bind g) n list i i1 i2 = (gq42.l1 kke0 kkr n list i i1 i2).bind g := by
 intro n
 induction n with
 | zero => intros; rfl
 | succ n ih => intros; simp only [gq42.l1, u6, u9, uc, u7, ih]
def gq42.F {R : Type} (kk : Int → Int → List (El ue) → Int → Option R) (list : List ByteArray) : Option R :=
 cond (decide ((List.length list : Int) > (4096 : Int))) (kk (0 : Int) (0 : Int) [] (2 : Int)) (
  gq42.l1 (fun list1 i i1 =>
   (gq88 list1).bind fun r =>
   cond (!r.2.2.2) (kk (0 : Int) (0 : Int) [] (3 : Int)) (kk r.1 r.2.1 r.2.2.1 (0 : Int))) (fun i2 i3 i4 => kk i3 i4 [] i2) fuel list (0 : Int) (0 : Int) (0 : Int))
theorem gq42.N (kk : Int → Int → List (El ue) → Int → Option R) (list) : gq42.F (fun y0 y1 y2 y3 => (kk y0 y1 y2 y3).bind g) list = (gq42.F kk list).bind g := by
 simp only [gq42.F, u6, u9, uc, u7, ← gq42.l1_nat]
def gq42 (list : List ByteArray) : Option (Int × Int × List (El ue) × Int) := gq42.F (fun y0 y1 y2 y3 => some (y0, y1, y2, y3)) list
def gq42.out : (Int × Int × List (El ue) × Int) → CRes := fun a => ⟨encL SV.enc [.agg [.int .i64, .int .i64, .slv [0] ue], .one (.int .i64)] ((a.1, a.2.1, a.2.2.1, ()), a.2.2.2, ()), [encL SC.enc [] ()]⟩
def gq42.ps : List PS := [.val [some (.str, false)]]
def gq42.sA : List SA := [.v (.one (.slv [] .str))]
def gq42.fi : FI := FIs gq42.sA (Int × Int × List (El ue) × Int) (fun t => gq42 t.1) gq42.out gq42.ps
def gq42.E : Env := ⟨tt, lkF [(88, gq88.fi)], 33, 0, [], []⟩
def gq42.sh1 : SK := ⟨[.v (.one (.slv [1] .str)), .v (.one (.bptr 0 0)), .v (.one (.int .i64))], [.box [.int .i64, .int .i64, .nil]]⟩
def gq42.sh1e0 : SK := ⟨[.v (.one (.slv [1] .str)), .v (.one (.bptr 0 0))], [.box [.int .i64, .int .i64, .nil]]⟩
def gq42.sh1r : SK := ⟨[.v (.one (.bptr 0 0)), .v (.one (.int .i64))], [.box [.int .i64, .int .i64, .nil]]⟩
def gq42.ko1 : Ex → List u16 × List Nat
 | .nrm => ([], [])
 | .ret => ([], [2, 3])
 | .ext i => cond (Nat.beq i 0) ([], [0, 2]) ([], [])
def gq42.G1 (n : Nat) (R : Type) (t : gq42.sh1.T) (K : Ex → Kp → Option R) : Option R := gq42.l1 (fun y0 y1 y2 => K (.ext 0) (SK.enc gq42.sh1e0 ((y0, (), ()), ((y1, y2, (), ()), ())))) (fun y0 y1 y2 => K .ret (SK.enc gq42.sh1r (((), y0, ()), ((y1, y2, (), ()), ())))) n t.1.1 t.1.2.2.1 t.2.1.1 t.2.1.2.1
def gq42.S1 : Sum := ⟨([], [0, 2, 4]), sumF gq42.sh1 (gq42.G1 fuel), gq42.ko1⟩
theorem gq42.ok1 (hE : EOk Tryz.prog (gq42.E)) : u15 Tryz.prog gq42.E (cB (cR (cL (cR (cR (u5 Tryz.f42)))))) (gq42.S1) := by
 have hh : HintOk Tryz.prog gq42.E (cB (cB (cR (cL (cR (cR (u5 Tryz.f42))))))) (.a) := HintOk.n1 (Q := True) (by kernel_rfl) trivial
 have h := u2a (kin := ([], [0, 2, 4])) (kout := gq42.ko1) (sh := gq42.sh1) (F := gq42.G1) (u1a (hE.gv _)) (by kernel_rfl) hh (fun _ _ _ => rfl) (fun n R t K => by kernel_rfl) fuel
 exact HintOk.n1 (c := (cB (cR (cL (cR (cR (u5 Tryz.f42))))))) (h := .s (gq42.S1)) (P := Tryz.prog) (E := gq42.E) (by kernel_rfl) h
theorem gq42.hok (hE : EOk Tryz.prog (gq42.E)) : HintOk Tryz.prog gq42.E (u5 Tryz.f42) (.n (.a) (.n (.a) (.n (.n (.a) (.b (.s (gq42.S1)))) (.a)))) := HintOk.n1 (Q := (True) ∧ ((True) ∧ (((True) ∧ (u15 Tryz.prog gq42.E (cB (cR (cL (cR (cR (u5 Tryz.f42)))))) (gq42.S1))) ∧ (True)))) (by kernel_rfl) ⟨trivial, ⟨trivial, ⟨⟨trivial, (gq42.ok1 hE)⟩, trivial⟩⟩⟩
theorem gq42.hE : EOk Tryz.prog (gq42.E) := EOk.of ttOk (⟨gq88.fok, trivial⟩)
theorem gq42.fok : FOk Tryz.prog 42 gq42.fi :=
 fokS (E := gq42.E) (wy := ⟨[[none, none, some (ue, false)], [none]], [[]], [⟨2, true, 2, .slv [0] ue⟩]⟩) (h := (fun gs => .n (.a) (.n (.a) (.n (.n (.a) (.b (.s (gq42.S1)))) (.a))))) (G := fun t g => gq42.F (fun y0 y1 y2 y3 => g (y0, y1, y2, y3)) t.1) (by kernel_rfl) gq42.hE Tryz.func42 (by kernel_rfl) rfl (Nat.le_refl _) (fun t => HintOk.n1 (by kernel_rfl) (gq42.hok gq42.hE)) (fun t g => gq42.N g (fun y0 y1 y2 y3 => some (y0, y1, y2, y3)) _) (fun t => by kernel_rfl)
def gq89.l1 {R : Type} (kke0 : Option R) (kkr : Bool → Option R) : Nat → List (El ue) → List (El ue) → Int → Option R
 | 0, _, _, _ => none
 | n + 1, a, b, i =>
  cond (decide (i < (List.length a : Int))) (
   grd (gIx i (List.length a)) <|
   grd (gIx i (List.length b)) <|
   cond (!(((rdE ue a (Int.toNat i)).1 == (rdE ue b (Int.toNat i)).1) && (((rdE ue a (Int.toNat i)).2.1 == (rdE ue b (Int.toNat i)).2.1) && (sEq (rdE ue a (Int.toNat i)).2.2 (rdE ue b (Int.toNat i)).2.2)))) (kkr false) (gq89.l1 kke0 kkr n a b (IntKind.wrap .i64 (i + (1 : Int))))) (kke0)
theorem gq89.l1_nat (kke0 : Option R) (kkr : Bool → Option R) : ∀ n a b i, gq89.l1 (kke0.bind g) (fun y0 => (kkr y0).bind g) n a b i = (gq89.l1 kke0 kkr n a b i).bind g := by
 intro n
 induction n with
 | zero => intros; rfl
 | succ n ih => intros; simp only [gq89.l1, u6, u9, uc, u7, ih]
def gq89.F {R : Type} (kk : Bool → Option R) (a : List (El ue)) (b : List (El ue)) : Option R :=
 cond ((List.length a : Int) != (List.length b : Int)) (kk false) (gq89.l1 (kk true) (fun b1 => kk b1) fuel a b (0 : Int))
theorem gq89.N (kk : Bool → Option R) (a b) : gq89.F (fun y0 => (kk y0).bind g) a b = (gq89.F kk a b).bind g := by
 simp only [gq89.F, u6, u9, uc, u7, ← gq89.l1_nat]
def gq89 (a : List (El ue)) (b : List (El ue)) : Option Bool := gq89.F (fun y0 => some y0) a b
def gq89.out : Bool → CRes := fun a => ⟨encL SV.enc [.one (.bool)] (a, ()), [encL SC.enc [] (), encL SC.enc [] ()]⟩
def gq89.ps : List PS := [.val [some (ue, false)], .val [some (ue, false)]]
def gq89.sA : List SA := [.v (.one (.slv [] ue)), .v (.one (.slv [] ue))]
def gq89.fi : FI := FIs gq89.sA (Bool) (fun t => gq89 t.1 t.2.1) gq89.out gq89.ps
def gq89.E : Env := ⟨tt, lkF [], 26, 0, [], []⟩
def gq89.sh1 : SK := ⟨[.v (.one (.slv [1] ue)), .v (.one (.slv [2] ue)), .v (.one (.int .i64))], []⟩
def gq89.sh1e0 : SK := ⟨[], []⟩
def gq89.sh1r : SK := ⟨[.v (.one (.bool))], []⟩
def gq89.ko1 : Ex → List u16 × List Nat
 | .nrm => ([], [])
 | .ret => ([], [4])
 | .ext i => cond (Nat.beq i 0) ([], []) ([], [])
def gq89.G1 (n : Nat) (R : Type) (t : gq89.sh1.T) (K : Ex → Kp → Option R) : Option R := gq89.l1 (K (.ext 0) (SK.enc gq89.sh1e0 ((), ()))) (fun y0 => K .ret (SK.enc gq89.sh1r ((y0, ()), ()))) n t.1.1 t.1.2.1 t.1.2.2.1
def gq89.S1 : Sum := ⟨([], [0, 1, 5]), sumF gq89.sh1 (gq89.G1 fuel), gq89.ko1⟩
theorem gq89.ok1 (hE : EOk Tryz.prog (gq89.E)) : u15 Tryz.prog gq89.E (cB (cR (cL (cR (cR (u5 Tryz.f89)))))) (gq89.S1) := by
 have hh : HintOk Tryz.prog gq89.E (cB (cB (cR (cL (cR (cR (u5 Tryz.f89))))))) (.a) := HintOk.n1 (Q := True) (by kernel_rfl) trivial
 have h := u2a (kin := ([], [0, 1, 5])) (kout := gq89.ko1) (sh := gq89.sh1) (F := gq89.G1) (u1a (hE.gv _)) (by kernel_rfl) hh (fun _ _ _ => rfl) (fun n R t K => by kernel_rfl) fuel
 exact HintOk.n1 (c := (cB (cR (cL (cR (cR (u5 Tryz.f89))))))) (h := .s (gq89.S1)) (P := Tryz.prog) (E := gq89.E) (by kernel_rfl) h
theorem gq89.hok (hE : EOk Tryz.prog (gq89.E)) : HintOk Tryz.prog gq89.E (u5 Tryz.f89) (.n (.a) (.n (.a) (.n (.n (.a) (.b (.s (gq89.S1)))) (.a)))) := HintOk.n1 (Q := (True) ∧ ((True) ∧ (((True) ∧ (u15 Tryz.prog gq89.E (cB (cR (cL (cR (cR (u5 Tryz.f89)))))) (gq89.S1))) ∧ (True)))) (by kernel_rfl) ⟨trivial, ⟨trivial, ⟨⟨trivial, (gq89.ok1 hE)⟩, trivial⟩⟩⟩
theorem gq89.hE : EOk Tryz.prog (gq89.E) := EOk.of ttOk (trivial)
theorem gq89.fok : FOk Tryz.prog 89 gq89.fi :=
 fokS (E := gq89.E) (wy := ⟨[[none]], [[], []], []⟩) (h := (fun gs => .n (.a) (.n (.a) (.n (.n (.a) (.b (.s (gq89.S1)))) (.a))))) (G := fun t g => gq89.F (fun y0 => g y0) t.1 t.2.1) (by kernel_rfl) gq89.hE Tryz.func89 (by kernel_rfl) rfl (Nat.le_refl _) (fun t => HintOk.n1 (by kernel_rfl) (gq89.hok gq89.hE)) (fun t g => gq89.N g (fun y0 => some y0) _ _) (fun t => by kernel_rfl)
def gq43.F {R : Type} (kk : Bool → Option R) (wbf : Int) (wc0 : Int) (wc1 : List (El ue)) (wc2 : Int) (wc3 : Int) (wc4 : List (El ue)) : Option R :=
 cond (wbf == wc2) (
  cond (wc0 == wc3) (
   (gq89 wc1 wc4).bind fun r =>
   kk r) (kk false)) (kk false)
theorem gq43.N (kk : Bool → Option R) (wbf wc0 wc1 wc2 wc3 wc4) : gq43.F (fun y0 => (kk y0).bind g) wbf wc0 wc1 wc2 wc3 wc4 = (gq43.F kk wbf wc0 wc1 wc2 wc3 wc4).bind g := by
 simp only [gq43.F, u6, u9, uc, u7]
def gq43 (wbf : Int) (wc0 : Int) (wc1 : List (El ue)) (wc2 : Int) (wc3 : Int) (wc4 : List (El ue)) : Option Bool := gq43.F (fun y0 => some y0) wbf wc0 wc1 wc2 wc3 wc4
def gq43.out : Bool → CRes := fun a => ⟨encL SV.enc [.one (.bool)] (a, ()), [encL SC.enc [] (), encL SC.enc [] ()]⟩
def gq43.ps : List PS := [.val [none, none, some (ue, false)], .val [none, none, some (ue, false)]]
def gq43.sA : List SA := [.v (.agg [.int .i64, .int .i64, .slv [] ue]), .v (.agg [.int .i64, .int .i64, .slv [] ue])]
def gq43.fi : FI := FIs gq43.sA (Bool) (fun t => gq43 t.1.1 t.1.2.1 t.1.2.2.1 t.2.1.1 t.2.1.2.1 t.2.1.2.2.1) gq43.out gq43.ps
def gq43.E : Env := ⟨tt, lkF [(89, gq89.fi)], 24, 0, [], []⟩
theorem gq43.hok (hE : EOk Tryz.prog (gq43.E)) : HintOk Tryz.prog gq43.E (u5 Tryz.f43) (.a) := HintOk.n1 (Q := True) (by kernel_rfl) trivial
theorem gq43.hE : EOk Tryz.prog (gq43.E) := EOk.of ttOk (⟨gq89.fok, trivial⟩)
theorem gq43.fok : FOk Tryz.prog 43 gq43.fi :=
 fokS (E := gq43.E) (wy := ⟨[[none]], [[], []], []⟩) (h := (fun gs => .a)) (G := fun t g => gq43.F (fun y0 => g y0) t.1.1 t.1.2.1 t.1.2.2.1 t.2.1.1 t.2.1.2.1 t.2.1.2.2.1) (by kernel_rfl) gq43.hE Tryz.func43 (by kernel_rfl) rfl (Nat.le_refl _) (fun t => HintOk.n1 (by kernel_rfl) (gq43.hok gq43.hE)) (fun t g => gq43.N g (fun y0 => some y0) _ _ _ _ _ _) (fun t => by kernel_rfl)
def gq7.l1 {R : Type} (kke0 : List Int → Int → Int → Int → Int → Int → Int → List ByteArray → Int → List (El ue) → List (El u4) → Option R) (kkr : Bool → Option R) : Nat → List Int → Int → Int → Int → Int → Int → Int → Int → List ByteArray → Int → List (El ue) → List (El u4) → Option R
 | 0, _, _, _, _, _, _, _, _, _, _, _, _ => none
 | n + 1, more, c, k_, i, none_, none_1, a, a1, list, torn, l, l1 =>
  cond (decide (i < k_)) (
   grd (gIx i (List.length list)) <|
   (gq27 torn l1 (rdE (.str : Kd) list (Int.toNat i))).bind fun r =>
   cond (r.2.2 != (0 : Int)) (kkr false) (
    gq7.l1 kke0 kkr n more c k_ (IntKind.wrap .i64 (i + (1 : Int))) none_ none_1 a a1 list r.1 l r.2.1)) (kke0 more c k_ none_ none_1 a a1 list torn l l1)
theorem gq7.l1_nat (kke0 : List Int → Int → Int → Int → Int → Int → Int → List ByteArray → Int → List (El ue) → List (El u4) → Option R) (kkr : Bool → Option R) : ∀ n more c k_ i none_ none_1 a a1 list torn l l1, gq7.l1 (fun y0 y1 y2 y3 y4 y5 y6 y7 y8 y9 y10 => (kke0 y0 y1 y2 y3 y4 y5 y6 y7 y8 y9 y10).bind g) (fun y0 => (kkr y0).bind g) n more c k_ i none_ none_1 a a1 list torn l l1 = (gq7.l1 kke0 kkr n more c k_ i none_ none_1 a a1 list torn l l1).bind g := by
 intro n
 induction n with
 | zero => intros; rfl
 | succ n ih => intros; simp only [gq7.l1, u6, u9, uc, u7, ih]
def gq7.l2 {R : Type} (kke2 : Int → Int → Int → Int → Int → Int → List ByteArray → Int → List Int → List (El ue) → List (El u4) → Option R) : Nat → List Int → Int → Int → Int → Int → Int → Int → Int → List ByteArray → Int → List Int → List (El ue) → List (El u4) → Option R
 | 0, _, _, _, _, _, _, _, _, _, _, _, _, _ => none
 | n + 1, more, c, k_, i, none_, none_1, a, a1, list, torn, keep, l, l1 =>
  cond (decide (i < (8 : Int))) (
   (l_at more (IntKind.wrap .i64 ((9 : Int) + i)) (40 : Int)).bind fun r =>
   grd (gRm (((List.length keep) + (List.length [r])) * 8)) <|
   gq7.l2 kke2 n more c k_ (IntKind.wrap .i64 (i + (1 : Int))) none_ none_1 a a1 list torn (keep ++ [r]) l l1) (kke2 c k_ none_ none_1 a a1 list torn keep l l1)
theorem gq7.l2_nat (kke2 : Int → Int → Int → Int → Int → Int → List ByteArray → Int → List Int → List (El ue) → List (El u4) → Option R) : ∀ n more c k_ i none_ none_1 a a1 list torn keep l l1, gq7.l2 (fun y0 y1 y2 y3 y4 y5 y6 y7 y8 y9 y10 => (kke2 y0 y1 y2 y3 y4 y5 y6 y7 y8 y9 y10).bind g) n more c k_ i none_ none_1 a a1 list torn keep l l1 = (gq7.l2 kke2 n more c k_ i none_ none_1 a a1 list torn keep l l1).bind g := by
 intro n
 induction n with
 | zero => intros; rfl
 | succ n ih => intros; simp only [gq7.l2, u6, u9, uc, u7, ih]
def gq7.l3 {R : Type} (kke4 : Option R) (kkr : Bool → Option R) : Nat → List ByteArray → Int → Int → Int → Int → List ByteArray → List (El ue) → Option R
 | 0, _, _, _, _, _, _, _ => none
 | n + 1, list, k_, i, got, got1, first, l =>
  cond (decide (i ≤ k_)) (
   grd (gRm (((List.length ([] : List ByteArray)) + (List.length first)) * 16)) <|
   grd (gSl (0 : Int) i (List.length list)) <|
   grd (gRm (((List.length (([] : List ByteArray) ++ first)) + (List.length (sub list (0 : Int) i))) * 16)) <|
   (gq42 ((([] : List ByteArray) ++ first) ++ (sub list (0 : Int) i))).bind fun r =>
   cond (r.2.2.2 == (0 : Int)) (
    (gq43 r.1 r.2.1 r.2.2.1 got got1 l).bind fun r1 =>
    cond (r1) (kkr true) (gq7.l3 kke4 kkr n list k_ (IntKind.wrap .i64 (i + (1 : Int))) got got1 first l)) (gq7.l3 kke4 kkr n list k_ (IntKind.wrap .i64 (i + (1 : Int))) got got1 first l)) (kke4)
theorem gq7.l3_nat (kke4 : Option R) (kkr : Bool → Option R) : ∀ n list k_ i got got1 first l, gq7.l3 (kke4.bind g) (fun y0 => (kkr y0).bind g) n list k_ i got got1 first l = (gq7.l3 kke4 kkr n list k_ i got got1 first l).bind g := by
 intro n
 induction n with
 | zero => intros; rfl
 | succ n ih => intros; simp only [gq7.l3, u6, u9, uc, u7, ih]
def gq7.F {R : Type} (kk : Bool → Option R) (code : List Int) (more : List Int) : Option R :=
 cond (decide ((List.length code : Int) > (1048576 : Int))) (kk true) (
  cond (decide ((List.length more : Int) > (1048576 : Int))) (kk true) (
   (gq39 code (0 : Int) (-1 : Int) []).bind fun r =>
   (gq39 more r.1 r.2.1 r.2.2).bind fun r1 =>
   (gq17 (3000 : Int)).bind fun r2 =>
   (gq34 r2.1 r2.2.1 (0 : Int) (-1 : Int) [] r.1 r.2.1 r.2.2).bind fun r3 =>
   (gq40 r.1 r.2.1 r.2.2 r1.1 r1.2.1 r1.2.2).bind fun r4 =>
   (l_at more (0 : Int) (IntKind.wrap .i64 ((List.length r4.1 : Int) + (1 : Int)))).bind fun r5 =>
   gq7.l1 (fun more1 c k_ none_ none_1 a a1 list torn l l1 =>
    gq7.l2 (fun c1 k_1 none_2 none_3 a2 a3 list1 torn1 keep l2 l3 =>
     (gq29 torn1 l3 (5 : Int) (0 : Int) ByteArray.empty ByteArray.empty ByteArray.empty keep).bind fun r6 =>
     (gq30 r6.1 r6.2.1).bind fun r7 =>
     (gq41 r7.1 r7.2.1).bind fun r8 =>
     cond (c1 != (0 : Int)) (kk false) (
      cond (r7.2.2 != (0 : Int)) (kk false) (
       cond (r8.2.2.2 != (0 : Int)) (kk false) (
        (gq40 none_2 none_3 [] a2 a3 l2).bind fun r9 =>
        gq7.l3 (kk false) (fun b => kk b) fuel list1 k_1 (0 : Int) r8.1 r8.2.1 r9.1 r8.2.2.1)))) fuel more1 c k_ (0 : Int) none_ none_1 a a1 list torn ([] : List Int) l l1) (fun b1 => kk b1) fuel more r3.2.2 r5 (0 : Int) (0 : Int) (-1 : Int) r.1 r.2.1 r4.1 r3.1 r.2.2 r3.2.1))
theorem gq7.N (kk : Bool → Option R) (code more) : gq7.F (fun y0 => (kk y0).bind g) code more = (gq7.F kk code more).bind g := by
 simp only [gq7.F, u6, u9, uc, u7, ← gq7.l1_nat, ← gq7.l2_nat, ← gq7.l3_nat]
def gq7 (code : List Int) (more : List Int) : Option Bool := gq7.F (fun y0 => some y0) code more
def gq7.out : Bool → CRes := fun a => ⟨encL SV.enc [.one (.bool)] (a, ()), [encL SC.enc [] (), encL SC.enc [] ()]⟩
def gq7.ps : List PS := [.val [some ((.int .u8), false)], .val [some ((.int .u8), false)]]
def gq7.sA : List SA := [.v (.one (.slv [] (.int .u8))), .v (.one (.slv [] (.int .u8)))]
def gq7.fi : FI := FIs gq7.sA (Bool) (fun t => gq7 t.1 t.2.1) gq7.out gq7.ps
def gq7.E : Env := ⟨tt, lkF [(17, gq17.fi), (18, l_at.fi), (27, gq27.fi), (29, gq29.fi), (30, gq30.fi), (34, gq34.fi), (39, gq39.fi), (40, gq40.fi), (41, gq41.fi), (42, gq42.fi), (43, gq43.fi)], 151, 0, [], []⟩
def gq7.sh1 : SK := ⟨[.v (.one (.slv [2] (.int .u8))), .v (.one (.bptr 0 0)), .v (.one (.bptr 1 0)), .v (.one (.int .i64)), .v (.one (.slo 2)), .v (.one (.int .i64)), .v (.one (.bptr 3 0)), .v (.one (.int .i64))], [.box [.int .i64, .int .i64, .nil], .box [.int .i64, .int .i64, .slo 4], .arr .str [] true, .box [.int .i64, .slo 5], .arr ue [] true, .arr u4 [] true]⟩
def gq7.sh1e0 : SK := ⟨[.v (.one (.slv [2] (.int .u8))), .v (.one (.bptr 0 0)), .v (.one (.bptr 1 0)), .v (.one (.int .i64)), .v (.one (.slo 2)), .v (.one (.int .i64)), .v (.one (.bptr 3 0))], [.box [.int .i64, .int .i64, .nil], .box [.int .i64, .int .i64, .slo 4], .arr .str [] true, .box [.int .i64, .slo 5], .arr ue [] true, .arr u4 [] true]⟩
def gq7.sh1r : SK := ⟨[.v (.one (.bool))], []⟩
def gq7.ko1 : Ex → List u16 × List Nat
 | .nrm => ([], [])
 | .ret => ([], [4])
 | .ext i => cond (Nat.beq i 0) ([], [1, 5, 6, 10, 11, 13, 14]) ([], [])
def gq7.G1 (n : Nat) (R : Type) (t : gq7.sh1.T) (K : Ex → Kp → Option R) : Option R := gq7.l1 (fun y0 y1 y2 y3 y4 y5 y6 y7 y8 y9 y10 => K (.ext 0) (SK.enc gq7.sh1e0 ((y0, (), (), y1, (), y2, (), ()), ((y3, y4, (), ()), (y5, y6, (), ()), y7, (y8, (), ()), y9, y10, ())))) (fun y0 => K .ret (SK.enc gq7.sh1r ((y0, ()), ()))) n t.1.1 t.1.2.2.2.1 t.1.2.2.2.2.2.1 t.1.2.2.2.2.2.2.2.1 t.2.1.1 t.2.1.2.1 t.2.2.1.1 t.2.2.1.2.1 t.2.2.2.1 t.2.2.2.2.1.1 t.2.2.2.2.2.1 t.2.2.2.2.2.2.1
def gq7.S1 : Sum := ⟨([], [1, 5, 6, 10, 11, 13, 14, 15]), sumF gq7.sh1 (gq7.G1 fuel), gq7.ko1⟩
theorem gq7.ok1 (hE : EOk Tryz.prog (gq7.E)) : u15 Tryz.prog gq7.E (cB (cR (cL (cR (cR (cR (cR (cR (cR (cR (cR (cR (cR (u5 Tryz.f7)))))))))))))) (gq7.S1) := by
 have hh : HintOk Tryz.prog gq7.E (cB (cB (cR (cL (cR (cR (cR (cR (cR (cR (cR (cR (cR (cR (u5 Tryz.f7))))))))))))))) (.a) := HintOk.n1 (Q := True) (by kernel_rfl) trivial
 have h := u2a (kin := ([], [1, 5, 6, 10, 11, 13, 14, 15])) (kout := gq7.ko1) (sh := gq7.sh1) (F := gq7.G1) (u1a (hE.gv _)) (by kernel_rfl) hh (fun _ _ _ => rfl) (fun n R t K => by kernel_rfl) fuel
 exact HintOk.n1 (c := (cB (cR (cL (cR (cR (cR (cR (cR (cR (cR (cR (cR (cR (u5 Tryz.f7))))))))))))))) (h := .s (gq7.S1)) (P := Tryz.prog) (E := gq7.E) (by kernel_rfl) h
def gq7.sh2 : SK := ⟨[.v (.one (.slv [2] (.int .u8))), .v (.one (.bptr 0 0)), .v (.one (.bptr 1 0)), .v (.one (.int .i64)), .v (.one (.slo 2)), .v (.one (.int .i64)), .v (.one (.bptr 3 0)), .v (.one (.slo 4)), .v (.one (.int .i64))], [.box [.int .i64, .int .i64, .nil], .box [.int .i64, .int .i64, .slo 5], .arr .str [] true, .box [.int .i64, .slo 6], .arr (.int .i64) [] true, .arr ue [] true, .arr u4 [] true]⟩
def gq7.sh2e2 : SK := ⟨[.v (.one (.bptr 0 0)), .v (.one (.bptr 1 0)), .v (.one (.int .i64)), .v (.one (.slo 2)), .v (.one (.int .i64)), .v (.one (.bptr 3 0)), .v (.one (.slo 4))], [.box [.int .i64, .int .i64, .nil], .box [.int .i64, .int .i64, .slo 5], .arr .str [] true, .box [.int .i64, .slo 6], .arr (.int .i64) [] true, .arr ue [] true, .arr u4 [] true]⟩
def gq7.ko2 : Ex → List u16 × List Nat
 | .nrm => ([], [])
 | .ret => ([], [])
 | .ext i => cond (Nat.beq i 2) ([], [5, 6, 10, 11, 13, 14, 18]) ([], [])
def gq7.G2 (n : Nat) (R : Type) (t : gq7.sh2.T) (K : Ex → Kp → Option R) : Option R := gq7.l2 (fun y0 y1 y2 y3 y4 y5 y6 y7 y8 y9 y10 => K (.ext 2) (SK.enc gq7.sh2e2 (((), (), y0, (), y1, (), (), ()), ((y2, y3, (), ()), (y4, y5, (), ()), y6, (y7, (), ()), y8, y9, y10, ())))) n t.1.1 t.1.2.2.2.1 t.1.2.2.2.2.2.1 t.1.2.2.2.2.2.2.2.2.1 t.2.1.1 t.2.1.2.1 t.2.2.1.1 t.2.2.1.2.1 t.2.2.2.1 t.2.2.2.2.1.1 t.2.2.2.2.2.1 t.2.2.2.2.2.2.1 t.2.2.2.2.2.2.2.1
def gq7.S2 : Sum := ⟨([], [1, 5, 6, 10, 11, 13, 14, 18, 19]), sumF gq7.sh2 (gq7.G2 fuel), gq7.ko2⟩
theorem gq7.ok2 (hE : EOk Tryz.prog (gq7.E)) : u15 Tryz.prog gq7.E (cB (cR (cL (cR (cR (cR (cR (cR (cR (cR (cR (cR (cR (cR (cR (u5 Tryz.f7)))))))))))))))) (gq7.S2) := by
 have hh : HintOk Tryz.prog gq7.E (cB (cB (cR (cL (cR (cR (cR (cR (cR (cR (cR (cR (cR (cR (cR (cR (u5 Tryz.f7))))))))))))))))) (.a) := HintOk.n1 (Q := True) (by kernel_rfl) trivial
 have h := u2a (kin := ([], [1, 5, 6, 10, 11, 13, 14, 18, 19])) (kout := gq7.ko2) (sh := gq7.sh2) (F := gq7.G2) (u1a (hE.gv _)) (by kernel_rfl) hh (fun _ _ _ => rfl) (fun n R t K => by kernel_rfl) fuel
 exact HintOk.n1 (c := (cB (cR (cL (cR (cR (cR (cR (cR (cR (cR (cR (cR (cR (cR (cR (u5 Tryz.f7))))))))))))))))) (h := .s (gq7.S2)) (P := Tryz.prog) (E := gq7.E) (by kernel_rfl) h
def gq7.sh3 : SK := ⟨[.v (.one (.slv [0] .str)), .v (.one (.int .i64)), .v (.one (.bptr 0 0)), .v (.one (.slo 1)), .v (.one (.int .i64))], [.box [.int .i64, .int .i64, .slo 2], .arr .str [] true, .arr ue [] true]⟩
def gq7.sh3e4 : SK := ⟨[], []⟩
def gq7.sh3r : SK := ⟨[.v (.one (.bool))], []⟩
def gq7.ko3 : Ex → List u16 × List Nat
 | .nrm => ([], [])
 | .ret => ([], [4])
 | .ext i => cond (Nat.beq i 4) ([], []) ([], [])
def gq7.G3 (n : Nat) (R : Type) (t : gq7.sh3.T) (K : Ex → Kp → Option R) : Option R := gq7.l3 (K (.ext 4) (SK.enc gq7.sh3e4 ((), ()))) (fun y0 => K .ret (SK.enc gq7.sh3r ((y0, ()), ()))) n t.1.1 t.1.2.1 t.1.2.2.2.2.1 t.2.1.1 t.2.1.2.1 t.2.2.1 t.2.2.2.1
def gq7.S3 : Sum := ⟨([⟨11, false, 0, .slv [0] .str⟩], [11, 13, 21, 23, 25]), sumF gq7.sh3 (gq7.G3 fuel), gq7.ko3⟩
theorem gq7.ok3 (hE : EOk Tryz.prog (gq7.E)) : u15 Tryz.prog gq7.E (cB (cR (cL (cR (cR (cR (cR (cR (cR (cR (cR (cR (cR (cR (cR (cR (cR (cR (cR (cR (cR (u5 Tryz.f7)))))))))))))))))))))) (gq7.S3) := by
 have hh : HintOk Tryz.prog gq7.E (cB (cB (cR (cL (cR (cR (cR (cR (cR (cR (cR (cR (cR (cR (cR (cR (cR (cR (cR (cR (cR (cR (u5 Tryz.f7))))))))))))))))))))))) (.a) := HintOk.n1 (Q := True) (by kernel_rfl) trivial
 have h := u2a (kin := ([⟨11, false, 0, .slv [0] .str⟩], [11, 13, 21, 23, 25])) (kout := gq7.ko3) (sh := gq7.sh3) (F := gq7.G3) (u1a (hE.gv _)) (by kernel_rfl) hh (fun _ _ _ => rfl) (fun n R t K => by kernel_rfl) fuel
 exact HintOk.n1 (c := (cB (cR (cL (cR (cR (cR (cR (cR (cR (cR (cR (cR (cR (cR (cR (cR (cR (cR (cR (cR (cR (u5 Tryz.f7))))))))))))))))))))))) (h := .s (gq7.S3)) (P := Tryz.prog) (E := gq7.E) (by kernel_rfl) h
theorem gq7.hok (hE : EOk Tryz.prog (gq7.E)) : HintOk Tryz.prog gq7.E (u5 Tryz.f7) (.n (.a) (.n (.a) (.n (.a) (.n (.a) (.n (.a) (.n (.a) (.n (.a) (.n (.a) (.n (.a) (.n (.a) (.n (.n (.a) (.b (.s (gq7.S1)))) (.n (.a) (.n (.n (.a) (.b (.s (gq7.S2)))) (.n (.a) (.n (.a) (.n (.a) (.n (.a) (.n (.a) (.n (.n (.a) (.b (.s (gq7.S3)))) (.a)))))))))))))))))))) := HintOk.n1 (Q := (True) ∧ ((True) ∧ ((True) ∧ ((True) ∧ ((True) ∧ ((True) ∧ ((True) ∧ ((True) ∧ ((True) ∧ ((True) ∧ (((True) ∧ (u15 Tryz.prog gq7.E (cB (cR (cL (cR (cR (cR (cR (cR (cR (cR (cR (cR (cR (u5 Tryz.f7)))))))))))))) (gq7.S1))) ∧ ((True) ∧ (((True) ∧ (u15 Tryz.prog gq7.E (cB (cR (cL (cR (cR (cR (cR (cR (cR (cR (cR (cR (cR (cR (cR (u5 Tryz.f7)))))))))))))))) (gq7.S2))) ∧ ((True) ∧ ((True) ∧ ((True) ∧ ((True) ∧ ((True) ∧ (((True) ∧ (u15 Tryz.prog gq7.E (cB (cR (cL (cR (cR (cR (cR (cR (cR (cR (cR (cR (cR (cR (cR (cR (cR (cR (cR (cR (cR (u5 Tryz.f7)))))))))))))))))))))) (gq7.S3))) ∧ (True)))))))))))))))))))) (by kernel_rfl) ⟨trivial, ⟨trivial, ⟨trivial, ⟨trivial, ⟨trivial, ⟨trivial, ⟨trivial, ⟨trivial, ⟨trivial, ⟨trivial, ⟨⟨trivial, (gq7.ok1 hE)⟩, ⟨trivial, ⟨⟨trivial, (gq7.ok2 hE)⟩, ⟨trivial, ⟨trivial, ⟨trivial, ⟨trivial, ⟨trivial, ⟨⟨trivial, (gq7.ok3 hE)⟩, trivial⟩⟩⟩⟩⟩⟩⟩⟩⟩⟩⟩⟩⟩⟩⟩⟩⟩⟩⟩
theorem gq7.hE : EOk Tryz.prog (gq7.E) := EOk.of ttOk (⟨gq17.fok, ⟨l_at.fok, ⟨gq27.fok, ⟨gq29.fok, ⟨gq30.fok, ⟨gq34.fok, ⟨gq39.fok, ⟨gq40.fok, ⟨gq41.fok, ⟨gq42.fok, ⟨gq43.fok, trivial⟩⟩⟩⟩⟩⟩⟩⟩⟩⟩⟩)
theorem gq7.fok : FOk Tryz.prog 7 gq7.fi :=
 fokS (E := gq7.E) (wy := ⟨[[none]], [[], []], []⟩) (h := (fun gs => .n (.a) (.n (.a) (.n (.a) (.n (.a) (.n (.a) (.n (.a) (.n (.a) (.n (.a) (.n (.a) (.n (.a) (.n (.n (.a) (.b (.s (gq7.S1)))) (.n (.a) (.n (.n (.a) (.b (.s (gq7.S2)))) (.n (.a) (.n (.a) (.n (.a) (.n (.a) (.n (.a) (.n (.n (.a) (.b (.s (gq7.S3)))) (.a))))))))))))))))))))) (G := fun t g => gq7.F (fun y0 => g y0) t.1 t.2.1) (by kernel_rfl) gq7.hE Tryz.func7 (by kernel_rfl) rfl (Nat.le_refl _) (fun t => HintOk.n1 (by kernel_rfl) (gq7.hok gq7.hE)) (fun t g => gq7.N g (fun y0 => some y0) _ _) (fun t => by kernel_rfl)
end
end Go.Proofs.YtaanadbpnmcbcaaGreatDoorA
