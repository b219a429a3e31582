/-
  Functions of the program, and that the small machine's runs are these. No condition.
  Printed by wip/amp/main.py (a session's own program) out of Lean's print of the program; Lean's kernel checks it.
-/
import Derived.Test.YtaanadbpnmcbcaaGreatDoorXuF2
namespace Go.Proofs.YtaanadbpnmcbcaaGreatDoorA
open Go
noncomputable section
set_option linter.unusedVariables false
set_option linter.unusedSimpArgs false
set_option maxRecDepth 100000
def gq83.j1 {R : Type} (kkn : Int → Bool → Int → Int → List (El kkb53) → Int → Int → List (El kkb53) → List ByteArray → Option R) (k_ : Int) (was : Int) (was1 : Int) (was2 : List (El kkb53)) (now : Int) (now1 : Int) (now2 : List (El kkb53)) (out : List ByteArray) : Option R :=
 cond (was != now) (kkn k_ true was was1 was2 now now1 now2 out) (kkn k_ (was1 != now1) was was1 was2 now now1 now2 out)
theorem gq83.j1_nat {R S : Type} (g : R → Option S) (kkn : Int → Bool → Int → Int → List (El kkb53) → Int → Int → List (El kkb53) → List ByteArray → Option R) (k_ was was1 was2 now now1 now2 out) : gq83.j1 (fun y0 y1 y2 y3 y4 y5 y6 y7 y8 => (kkn y0 y1 y2 y3 y4 y5 y6 y7 y8).bind g) k_ was was1 was2 now now1 now2 out = (gq83.j1 kkn k_ was was1 was2 now now1 now2 out).bind g := by
 simp only [gq83.j1, grd_bind, cnd_bind, bnd_bind, non_bind]
def gq83.j2 {R : Type} (kkn : Int → Int → Int → List (El kkb53) → Int → Int → List (El kkb53) → List ByteArray → Option R) (k_ : Int) (was : Int) (was1 : Int) (was2 : List (El kkb53)) (now : Int) (now1 : Int) (now2 : List (El kkb53)) (out : List ByteArray) : Option R :=
 gq83.j1 (fun k_1 b was3 was4 was5 now3 now4 now5 out1 =>
  cond (b) (
   (gq137 now3 (4 : Int)).bind fun r =>
   grd (gCat (⟨#[84]⟩ : ByteArray) r) <|
   (gq137 (IntKind.wrap .i64 (now4 + (1 : Int))) (1 : Int)).bind fun r1 =>
   grd (gCat ((⟨#[84]⟩ : ByteArray) ++ r) r1) <|
   grd (gRm (((List.length out1) + (List.length ([((⟨#[84]⟩ : ByteArray) ++ r) ++ r1]))) * 16)) <|
   kkn k_1 was3 was4 was5 now3 now4 now5 (out1 ++ ([((⟨#[84]⟩ : ByteArray) ++ r) ++ r1]))) (kkn k_1 was3 was4 was5 now3 now4 now5 out1)) k_ was was1 was2 now now1 now2 out
theorem gq83.j2_nat {R S : Type} (g : R → Option S) (kkn : Int → Int → Int → List (El kkb53) → Int → Int → List (El kkb53) → List ByteArray → Option R) (k_ was was1 was2 now now1 now2 out) : gq83.j2 (fun y0 y1 y2 y3 y4 y5 y6 y7 => (kkn y0 y1 y2 y3 y4 y5 y6 y7).bind g) k_ was was1 was2 now now1 now2 out = (gq83.j2 kkn k_ was was1 was2 now now1 now2 out).bind g := by
 simp only [gq83.j2, grd_bind, cnd_bind, bnd_bind, non_bind, ← gq83.j1_nat]
def gq83.j3 {R : Type} (kkn : Int → Int → Int → List (El kkb53) → List ByteArray → Option R) (k_ : Int) (was : Int) (was1 : Int) (was2 : List (El kkb53)) (now : Int) (now1 : Int) (now2 : List (El kkb53)) (out : List ByteArray) : Option R :=
 cond (decide ((List.length was2 : Int) > k_)) (
  (gq137 k_ (4 : Int)).bind fun r =>
  grd (gCat (⟨#[67]⟩ : ByteArray) r) <|
  grd (gRm (((List.length out) + (List.length ([(⟨#[67]⟩ : ByteArray) ++ r]))) * 16)) <|
  kkn k_ now now1 now2 (out ++ ([(⟨#[67]⟩ : ByteArray) ++ r]))) (kkn k_ now now1 now2 out)
theorem gq83.j3_nat {R S : Type} (g : R → Option S) (kkn : Int → Int → Int → List (El kkb53) → List ByteArray → Option R) (k_ was was1 was2 now now1 now2 out) : gq83.j3 (fun y0 y1 y2 y3 y4 => (kkn y0 y1 y2 y3 y4).bind g) k_ was was1 was2 now now1 now2 out = (gq83.j3 kkn k_ was was1 was2 now now1 now2 out).bind g := by
 simp only [gq83.j3, grd_bind, cnd_bind, bnd_bind, non_bind]
def gq83.l4 {R : Type} (kke0 : List ByteArray → Option R) : Nat → List (El kkb53) → Int → Int → List ByteArray → Option R
 | 0, _, _, _, _ => none
 | n + 1, l, i, i1, out =>
  cond (decide (i1 < i)) (
   grd (gIx i1 (List.length l)) <|
   (gq138 ((rdE kkb53 l (Int.toNat i1)).1) ((rdE kkb53 l (Int.toNat i1)).2.1) ((rdE kkb53 l (Int.toNat i1)).2.2)).bind fun r =>
   grd (gCat (⟨#[69]⟩ : ByteArray) r) <|
   grd (gRm (((List.length out) + (List.length ([(⟨#[69]⟩ : ByteArray) ++ r]))) * 16)) <|
   gq83.l4 kke0 n l i (IntKind.wrap .i64 (i1 + (1 : Int))) (out ++ ([(⟨#[69]⟩ : ByteArray) ++ r]))) (kke0 out)
theorem gq83.l4_nat {R S : Type} (g : R → Option S) (kke0 : List ByteArray → Option R) : ∀ n l i i1 out, gq83.l4 (fun y0 => (kke0 y0).bind g) n l i i1 out = (gq83.l4 kke0 n l i i1 out).bind g := by
 intro n
 induction n with
 | zero => intros; rfl
 | succ n ih => intros; simp only [gq83.l4, grd_bind, cnd_bind, bnd_bind, non_bind, ih]
def gq83.F {R : Type} (kk : List ByteArray → Option R) (was_Term : Int) (was_Vote : Int) (was_Log : List (El kkb53)) (now_Term : Int) (now_Vote : Int) (now_Log : List (El kkb53)) : Option R :=
 (gq136 was_Log now_Log).bind fun r =>
 gq83.j2 (fun k_ was was1 was2 now now1 now2 out =>
  gq83.j3 (fun k_1 now3 now4 now5 out1 =>
   grd (gSl k_1 (List.length now5 : Int) (List.length now5)) <|
   gq83.l4 (fun out2 => kk out2) fuel (sub now5 k_1 (List.length now5 : Int)) (List.length (sub now5 k_1 (List.length now5 : Int)) : Int) (0 : Int) out1) k_ was was1 was2 now now1 now2 out) r was_Term was_Vote was_Log now_Term now_Vote now_Log ([] : List ByteArray)
theorem gq83.F_nat {R S : Type} (g : R → Option S) (kk : List ByteArray → Option R) (was_Term was_Vote was_Log now_Term now_Vote now_Log) : gq83.F (fun y0 => (kk y0).bind g) was_Term was_Vote was_Log now_Term now_Vote now_Log = (gq83.F kk was_Term was_Vote was_Log now_Term now_Vote now_Log).bind g := by
 simp only [gq83.F, grd_bind, cnd_bind, bnd_bind, non_bind, ← gq83.j2_nat, ← gq83.j3_nat, ← gq83.l4_nat]
def gq83 (was_Term : Int) (was_Vote : Int) (was_Log : List (El kkb53)) (now_Term : Int) (now_Vote : Int) (now_Log : List (El kkb53)) : Option (List ByteArray) := gq83.F (fun y0 => some y0) was_Term was_Vote was_Log now_Term now_Vote now_Log
def gq83.out : (List ByteArray) → CRes := fun a => ⟨encL SV.enc [.one (.own [] .str true)] (a, ()), [encL SC.enc [] (), encL SC.enc [] ()]⟩
def gq83.ps : List PS := [.val [none, none, some (kkb53, false)], .val [none, none, some (kkb53, false)]]
def gq83.sA : List SA := [.v (.agg [.int .i64, .int .i64, .slv [] kkb53]), .v (.agg [.int .i64, .int .i64, .slv [] kkb53])]
def gq83.fi : FI := FIs gq83.sA (List ByteArray) (fun t => gq83 t.1.1 t.1.2.1 t.1.2.2.1 t.2.1.1 t.2.1.2.1 t.2.1.2.2.1) gq83.out gq83.ps
def gq83.E : Env := ⟨tt, lkF [(136, gq136.fi), (137, gq137.fi), (138, gq138.fi)], 67, 0, [], []⟩
def gq83.sh1 : SK := ⟨[.v (.one (.bptr 0 0)), .v (.one (.bptr 1 0)), .v (.one (.slo 2)), .v (.one (.int .i64))], [.box [.int .i64, .int .i64, .slv [1] kkb53], .box [.int .i64, .int .i64, .slv [2] kkb53], .arr .str [] true]⟩
def gq83.sh1n : SK := ⟨[.v (.one (.bptr 0 0)), .v (.one (.bptr 1 0)), .v (.one (.slo 2)), .v (.one (.int .i64)), .v (.one (.bool))], [.box [.int .i64, .int .i64, .slv [1] kkb53], .box [.int .i64, .int .i64, .slv [2] kkb53], .arr .str [] true]⟩
def gq83.ko1 : Ex → List CastAt × List Nat
 | .nrm => ([], [2, 3, 5, 6, 26])
 | .ret => ([], [])
 | .ext i => ([], [])
def gq83.G1 (R : Type) (t : gq83.sh1.T) (K : Ex → Kp → Option R) : Option R := gq83.j1 (fun y0 y1 y2 y3 y4 y5 y6 y7 y8 => K .nrm (SK.enc gq83.sh1n (((), (), (), y0, y1, ()), ((y2, y3, y4, ()), (y5, y6, y7, ()), y8, ())))) t.1.2.2.2.1 t.2.1.1 t.2.1.2.1 t.2.1.2.2.1 t.2.2.1.1 t.2.2.1.2.1 t.2.2.1.2.2.1 t.2.2.2.1
def gq83.S1 : Sum := ⟨([], [2, 3, 5, 6]), sumF gq83.sh1 (gq83.G1), gq83.ko1⟩
theorem gq83.ok1 (hE : EOk Tryz.prog (gq83.E)) : SumOk Tryz.prog gq83.E (cL (cL (cR (cR (bodyOf Tryz.f83))))) (gq83.S1) := by
 have hh : HintOk Tryz.prog gq83.E (cL (cL (cR (cR (bodyOf Tryz.f83))))) (.a) := HintOk.n1 (Q := True) (by kernel_rfl) trivial
 exact sumS (kin := ([], [2, 3, 5, 6])) (kout := gq83.ko1) (sh := gq83.sh1) (F := gq83.G1) (ops_ok (hE.gv _)) (by kernel_rfl) hh (fun R t K => by kernel_rfl)
def gq83.sh2 : SK := ⟨[.v (.one (.bptr 0 0)), .v (.one (.bptr 1 0)), .v (.one (.slo 2)), .v (.one (.int .i64))], [.box [.int .i64, .int .i64, .slv [1] kkb53], .box [.int .i64, .int .i64, .slv [2] kkb53], .arr .str [] true]⟩
def gq83.sh2n : SK := ⟨[.v (.one (.bptr 0 0)), .v (.one (.bptr 1 0)), .v (.one (.slo 2)), .v (.one (.int .i64))], [.box [.int .i64, .int .i64, .slv [1] kkb53], .box [.int .i64, .int .i64, .slv [2] kkb53], .arr .str [] true]⟩
def gq83.ko2 : Ex → List CastAt × List Nat
 | .nrm => ([], [2, 3, 5, 6])
 | .ret => ([], [])
 | .ext i => ([], [])
def gq83.G2 (R : Type) (t : gq83.sh2.T) (K : Ex → Kp → Option R) : Option R := gq83.j2 (fun y0 y1 y2 y3 y4 y5 y6 y7 => K .nrm (SK.enc gq83.sh2n (((), (), (), y0, ()), ((y1, y2, y3, ()), (y4, y5, y6, ()), y7, ())))) t.1.2.2.2.1 t.2.1.1 t.2.1.2.1 t.2.1.2.2.1 t.2.2.1.1 t.2.2.1.2.1 t.2.2.1.2.2.1 t.2.2.2.1
def gq83.S2 : Sum := ⟨([], [2, 3, 5, 6]), sumF gq83.sh2 (gq83.G2), gq83.ko2⟩
theorem gq83.ok2 (hE : EOk Tryz.prog (gq83.E)) : SumOk Tryz.prog gq83.E (cL (cR (cR (bodyOf Tryz.f83)))) (gq83.S2) := by
 have hh : HintOk Tryz.prog gq83.E (cL (cR (cR (bodyOf Tryz.f83)))) (.n (.s (gq83.S1)) (.a)) := HintOk.n1 (Q := (SumOk Tryz.prog gq83.E (cL (cL (cR (cR (bodyOf Tryz.f83))))) (gq83.S1)) ∧ (True)) (by kernel_rfl) ⟨(gq83.ok1 hE), trivial⟩
 exact sumS (kin := ([], [2, 3, 5, 6])) (kout := gq83.ko2) (sh := gq83.sh2) (F := gq83.G2) (ops_ok (hE.gv _)) (by kernel_rfl) hh (fun R t K => by kernel_rfl)
def gq83.sh3 : SK := ⟨[.v (.one (.bptr 0 0)), .v (.one (.bptr 1 0)), .v (.one (.slo 2)), .v (.one (.int .i64))], [.box [.int .i64, .int .i64, .slv [1] kkb53], .box [.int .i64, .int .i64, .slv [2] kkb53], .arr .str [] true]⟩
def gq83.sh3n : SK := ⟨[.v (.one (.bptr 0 0)), .v (.one (.slo 1)), .v (.one (.int .i64))], [.box [.int .i64, .int .i64, .slv [2] kkb53], .arr .str [] true]⟩
def gq83.ko3 : Ex → List CastAt × List Nat
 | .nrm => ([], [3, 5, 6])
 | .ret => ([], [])
 | .ext i => ([], [])
def gq83.G3 (R : Type) (t : gq83.sh3.T) (K : Ex → Kp → Option R) : Option R := gq83.j3 (fun y0 y1 y2 y3 y4 => K .nrm (SK.enc gq83.sh3n (((), (), y0, ()), ((y1, y2, y3, ()), y4, ())))) t.1.2.2.2.1 t.2.1.1 t.2.1.2.1 t.2.1.2.2.1 t.2.2.1.1 t.2.2.1.2.1 t.2.2.1.2.2.1 t.2.2.2.1
def gq83.S3 : Sum := ⟨([], [2, 3, 5, 6]), sumF gq83.sh3 (gq83.G3), gq83.ko3⟩
theorem gq83.ok3 (hE : EOk Tryz.prog (gq83.E)) : SumOk Tryz.prog gq83.E (cL (cR (cR (cR (bodyOf Tryz.f83))))) (gq83.S3) := by
 have hh : HintOk Tryz.prog gq83.E (cL (cR (cR (cR (bodyOf Tryz.f83))))) (.a) := HintOk.n1 (Q := True) (by kernel_rfl) trivial
 exact sumS (kin := ([], [2, 3, 5, 6])) (kout := gq83.ko3) (sh := gq83.sh3) (F := gq83.G3) (ops_ok (hE.gv _)) (by kernel_rfl) hh (fun R t K => by kernel_rfl)
def gq83.sh4 : SK := ⟨[.v (.one (.slo 0)), .v (.one (.slv [2] kkb53)), .v (.one (.int .i64)), .v (.one (.int .i64))], [.arr .str [] true]⟩
def gq83.sh4e0 : SK := ⟨[.v (.one (.slo 0))], [.arr .str [] true]⟩
def gq83.ko4 : Ex → List CastAt × List Nat
 | .nrm => ([], [])
 | .ret => ([], [])
 | .ext i => cond (Nat.beq i 0) ([], [5]) ([], [])
def gq83.G4 (n : Nat) (R : Type) (t : gq83.sh4.T) (K : Ex → Kp → Option R) : Option R := gq83.l4 (fun y0 => K (.ext 0) (SK.enc gq83.sh4e0 (((), ()), (y0, ())))) n t.1.2.1 t.1.2.2.1 t.1.2.2.2.1 t.2.1
def gq83.S4 : Sum := ⟨([], [5, 53, 54, 55]), sumF gq83.sh4 (gq83.G4 fuel), gq83.ko4⟩
theorem gq83.ok4 (hE : EOk Tryz.prog (gq83.E)) : SumOk Tryz.prog gq83.E (cB (cR (cL (cR (cR (cR (cR (bodyOf Tryz.f83)))))))) (gq83.S4) := by
 have hh : HintOk Tryz.prog gq83.E (cB (cB (cR (cL (cR (cR (cR (cR (bodyOf Tryz.f83))))))))) (.a) := HintOk.n1 (Q := True) (by kernel_rfl) trivial
 have h := loopS (kin := ([], [5, 53, 54, 55])) (kout := gq83.ko4) (sh := gq83.sh4) (F := gq83.G4) (ops_ok (hE.gv _)) (by kernel_rfl) hh (fun _ _ _ => rfl) (fun n R t K => by kernel_rfl) fuel
 exact HintOk.n1 (c := (cB (cR (cL (cR (cR (cR (cR (bodyOf Tryz.f83))))))))) (h := .s (gq83.S4)) (P := Tryz.prog) (E := gq83.E) (by kernel_rfl) h
theorem gq83.hok (hE : EOk Tryz.prog (gq83.E)) : HintOk Tryz.prog gq83.E (bodyOf Tryz.f83) (.n (.a) (.n (.a) (.n (.s (gq83.S2)) (.n (.s (gq83.S3)) (.n (.n (.a) (.b (.s (gq83.S4)))) (.a)))))) := HintOk.n1 (Q := (True) ∧ ((True) ∧ ((SumOk Tryz.prog gq83.E (cL (cR (cR (bodyOf Tryz.f83)))) (gq83.S2)) ∧ ((SumOk Tryz.prog gq83.E (cL (cR (cR (cR (bodyOf Tryz.f83))))) (gq83.S3)) ∧ (((True) ∧ (SumOk Tryz.prog gq83.E (cB (cR (cL (cR (cR (cR (cR (bodyOf Tryz.f83)))))))) (gq83.S4))) ∧ (True)))))) (by kernel_rfl) ⟨trivial, ⟨trivial, ⟨(gq83.ok2 hE), ⟨(gq83.ok3 hE), ⟨⟨trivial, (gq83.ok4 hE)⟩, trivial⟩⟩⟩⟩⟩
theorem gq83.hE : EOk Tryz.prog (gq83.E) := EOk.of ttOk (⟨gq136.fok, ⟨gq137.fok, ⟨gq138.fok, trivial⟩⟩⟩)
theorem gq83.fok : FOk Tryz.prog 83 gq83.fi :=
 fokS (E := gq83.E) (wy := ⟨[[some (.str, true)]], [[], []], []⟩) (h := (fun gs => .n (.a) (.n (.a) (.n (.s (gq83.S2)) (.n (.s (gq83.S3)) (.n (.n (.a) (.b (.s (gq83.S4)))) (.a))))))) (G := fun t g => gq83.F (fun y0 => g y0) t.1.1 t.1.2.1 t.1.2.2.1 t.2.1.1 t.2.1.2.1 t.2.1.2.2.1) (by kernel_rfl) gq83.hE Tryz.func83 (by kernel_rfl) rfl (Nat.le_refl _) (fun t => HintOk.n1 (by kernel_rfl) (gq83.hok gq83.hE)) (fun t g => gq83.F_nat g (fun y0 => some y0) _ _ _ _ _ _) (fun t => by kernel_rfl)
def gq36.l1 {R : Type} (kke0 : Int → Int → List (El kFile) → Option R) (kkr : Int → Int → Option R) : Nat → Int → Int → Int → Int → List ByteArray → List (El kFile) → Option R
 | 0, _, _, _, _, _, _ => none
 | n + 1, i, i1, i2, out, l, l1 =>
  cond (decide (i1 < i)) (
   grd (gIx i1 (List.length l)) <|
   (gq71 out l1 (rdE (.str : Kd) l (Int.toNat i1))).bind fun r =>
   cond (r.2.2 != (0 : Int)) (kkr r.2.2 (0 : Int)) (gq36.l1 kke0 kkr n i (IntKind.wrap .i64 (i1 + (1 : Int))) i2 r.1 l r.2.1)) (kke0 i2 out l1)
theorem gq36.l1_nat {R S : Type} (g : R → Option S) (kke0 : Int → Int → List (El kFile) → Option R) (kkr : Int → Int → Option R) : ∀ n i i1 i2 out l l1, gq36.l1 (fun y0 y1 y2 => (kke0 y0 y1 y2).bind g) (fun y0 y1 => (kkr y0 y1).bind g) n i i1 i2 out l l1 = (gq36.l1 kke0 kkr n i i1 i2 out l l1).bind g := by
 intro n
 induction n with
 | zero => intros; rfl
 | succ n ih => intros; simp only [gq36.l1, grd_bind, cnd_bind, bnd_bind, non_bind, ih]
def gq36.F {R : Type} (kk : Int → List (El kFile) → Int → Option R) (d_Room : Int) (d_Files : List (El kFile)) (was_Term : Int) (was_Vote : Int) (was_Log : List (El kkb53)) (now_Term : Int) (now_Vote : Int) (now_Log : List (El kkb53)) : Option R :=
 (gq65 d_Room d_Files).bind fun r =>
 cond (!r) (kk (0 : Int) [] (1 : Int)) (
  (gq47 was_Term was_Vote was_Log).bind fun r1 =>
  cond (!r1) (kk (0 : Int) [] (1 : Int)) (
   (gq47 now_Term now_Vote now_Log).bind fun r2 =>
   cond (!r2) (kk (0 : Int) [] (1 : Int)) (
    (gq53 d_Room d_Files).bind fun r3 =>
    (gq83 was_Term was_Vote was_Log now_Term now_Vote now_Log).bind fun r4 =>
    gq36.l1 (fun i out l =>
     (gq72 out l).bind fun r5 =>
     kk r5.1 r5.2 (0 : Int)) (fun i1 i2 => kk i2 [] i1) fuel (List.length r4 : Int) (0 : Int) (0 : Int) r3.1 r4 r3.2)))
theorem gq36.F_nat {R S : Type} (g : R → Option S) (kk : Int → List (El kFile) → Int → Option R) (d_Room d_Files was_Term was_Vote was_Log now_Term now_Vote now_Log) : gq36.F (fun y0 y1 y2 => (kk y0 y1 y2).bind g) d_Room d_Files was_Term was_Vote was_Log now_Term now_Vote now_Log = (gq36.F kk d_Room d_Files was_Term was_Vote was_Log now_Term now_Vote now_Log).bind g := by
 simp only [gq36.F, grd_bind, cnd_bind, bnd_bind, non_bind, ← gq36.l1_nat]
def gq36 (d_Room : Int) (d_Files : List (El kFile)) (was_Term : Int) (was_Vote : Int) (was_Log : List (El kkb53)) (now_Term : Int) (now_Vote : Int) (now_Log : List (El kkb53)) : Option (Int × List (El kFile) × Int) := gq36.F (fun y0 y1 y2 => some (y0, y1, y2)) d_Room d_Files was_Term was_Vote was_Log now_Term now_Vote now_Log
def gq36.out : (Int × List (El kFile) × Int) → CRes := fun a => ⟨encL SV.enc [.agg [.int .i64, .own [] kFile true], .one (.int .i64)] ((a.1, a.2.1, ()), a.2.2, ()), [encL SC.enc [] (), encL SC.enc [] (), encL SC.enc [] ()]⟩
def gq36.ps : List PS := [.val [none, some (kFile, false)], .val [none, none, some (kkb53, false)], .val [none, none, some (kkb53, false)]]
def gq36.sA : List SA := [.v (.agg [.int .i64, .slv [] kFile]), .v (.agg [.int .i64, .int .i64, .slv [] kkb53]), .v (.agg [.int .i64, .int .i64, .slv [] kkb53])]
def gq36.fi : FI := FIs gq36.sA (Int × List (El kFile) × Int) (fun t => gq36 t.1.1 t.1.2.1 t.2.1.1 t.2.1.2.1 t.2.1.2.2.1 t.2.2.1.1 t.2.2.1.2.1 t.2.2.1.2.2.1) gq36.out gq36.ps
def gq36.E : Env := ⟨tt, lkF [(47, gq47.fi), (53, gq53.fi), (65, gq65.fi), (71, gq71.fi), (72, gq72.fi), (83, gq83.fi)], 51, 0, [], []⟩
def gq36.sh1 : SK := ⟨[.v (.one (.bptr 0 0)), .v (.one (.bptr 1 0)), .v (.one (.slo 2)), .v (.one (.int .i64)), .v (.one (.int .i64))], [.box [.int .i64, .nil], .box [.int .i64, .slo 3], .arr .str [] true, .arr kFile [] true]⟩
def gq36.sh1e0 : SK := ⟨[.v (.one (.bptr 0 0)), .v (.one (.bptr 1 0))], [.box [.int .i64, .nil], .box [.int .i64, .slo 2], .arr kFile [] true]⟩
def gq36.sh1r : SK := ⟨[.v (.one (.bptr 0 0)), .v (.one (.int .i64))], [.box [.int .i64, .nil]]⟩
def gq36.ko1 : Ex → List CastAt × List Nat
 | .nrm => ([], [])
 | .ret => ([], [6, 7])
 | .ext i => cond (Nat.beq i 0) ([], [6, 8]) ([], [])
def gq36.G1 (n : Nat) (R : Type) (t : gq36.sh1.T) (K : Ex → Kp → Option R) : Option R := gq36.l1 (fun y0 y1 y2 => K (.ext 0) (SK.enc gq36.sh1e0 (((), (), ()), ((y0, (), ()), (y1, (), ()), y2, ())))) (fun y0 y1 => K .ret (SK.enc gq36.sh1r (((), y0, ()), ((y1, (), ()), ())))) n t.1.2.2.2.1 t.1.2.2.2.2.1 t.2.1.1 t.2.2.1.1 t.2.2.2.1 t.2.2.2.2.1
def gq36.S1 : Sum := ⟨([], [6, 8, 31, 32, 33]), sumF gq36.sh1 (gq36.G1 fuel), gq36.ko1⟩
theorem gq36.ok1 (hE : EOk Tryz.prog (gq36.E)) : SumOk Tryz.prog gq36.E (cB (cR (cL (cR (cR (cR (bodyOf Tryz.f36))))))) (gq36.S1) := by
 have hh : HintOk Tryz.prog gq36.E (cB (cB (cR (cL (cR (cR (cR (bodyOf Tryz.f36)))))))) (.a) := HintOk.n1 (Q := True) (by kernel_rfl) trivial
 have h := loopS (kin := ([], [6, 8, 31, 32, 33])) (kout := gq36.ko1) (sh := gq36.sh1) (F := gq36.G1) (ops_ok (hE.gv _)) (by kernel_rfl) hh (fun _ _ _ => rfl) (fun n R t K => by kernel_rfl) fuel
 exact HintOk.n1 (c := (cB (cR (cL (cR (cR (cR (bodyOf Tryz.f36)))))))) (h := .s (gq36.S1)) (P := Tryz.prog) (E := gq36.E) (by kernel_rfl) h
theorem gq36.hok (hE : EOk Tryz.prog (gq36.E)) : HintOk Tryz.prog gq36.E (bodyOf Tryz.f36) (.n (.a) (.n (.a) (.n (.a) (.n (.n (.a) (.b (.s (gq36.S1)))) (.a))))) := HintOk.n1 (Q := (True) ∧ ((True) ∧ ((True) ∧ (((True) ∧ (SumOk Tryz.prog gq36.E (cB (cR (cL (cR (cR (cR (bodyOf Tryz.f36))))))) (gq36.S1))) ∧ (True))))) (by kernel_rfl) ⟨trivial, ⟨trivial, ⟨trivial, ⟨⟨trivial, (gq36.ok1 hE)⟩, trivial⟩⟩⟩⟩
theorem gq36.hE : EOk Tryz.prog (gq36.E) := EOk.of ttOk (⟨gq47.fok, ⟨gq53.fok, ⟨gq65.fok, ⟨gq71.fok, ⟨gq72.fok, ⟨gq83.fok, trivial⟩⟩⟩⟩⟩⟩)
theorem gq36.fok : FOk Tryz.prog 36 gq36.fi :=
 fokS (E := gq36.E) (wy := ⟨[[none, some (kFile, true)], [none]], [[], [], []], []⟩) (h := (fun gs => .n (.a) (.n (.a) (.n (.a) (.n (.n (.a) (.b (.s (gq36.S1)))) (.a)))))) (G := fun t g => gq36.F (fun y0 y1 y2 => g (y0, y1, y2)) t.1.1 t.1.2.1 t.2.1.1 t.2.1.2.1 t.2.1.2.2.1 t.2.2.1.1 t.2.2.1.2.1 t.2.2.1.2.2.1) (by kernel_rfl) gq36.hE Tryz.func36 (by kernel_rfl) rfl (Nat.le_refl _) (fun t => HintOk.n1 (by kernel_rfl) (gq36.hok gq36.hE)) (fun t g => gq36.F_nat g (fun y0 y1 y2 => some (y0, y1, y2)) _ _ _ _ _ _ _ _) (fun t => by kernel_rfl)
def gq139.F {R : Type} (kk : Bool → Option R) (a_Term : Int) (a_Kind : Int) (a_Data : ByteArray) (b_Term : Int) (b_Kind : Int) (b_Data : ByteArray) : Option R :=
 cond (a_Term != b_Term) (kk false) (cond (a_Kind != b_Kind) (kk false) (cond (!(sEq a_Data b_Data)) (kk false) (kk true)))
theorem gq139.F_nat {R S : Type} (g : R → Option S) (kk : Bool → Option R) (a_Term a_Kind a_Data b_Term b_Kind b_Data) : gq139.F (fun y0 => (kk y0).bind g) a_Term a_Kind a_Data b_Term b_Kind b_Data = (gq139.F kk a_Term a_Kind a_Data b_Term b_Kind b_Data).bind g := by
 simp only [gq139.F, grd_bind, cnd_bind, bnd_bind, non_bind]
def gq139 (a_Term : Int) (a_Kind : Int) (a_Data : ByteArray) (b_Term : Int) (b_Kind : Int) (b_Data : ByteArray) : Option Bool := gq139.F (fun y0 => some y0) a_Term a_Kind a_Data b_Term b_Kind b_Data
def gq139.out : Bool → CRes := fun a => ⟨encL SV.enc [.one (.bool)] (a, ()), [encL SC.enc [] (), encL SC.enc [] ()]⟩
def gq139.ps : List PS := [.val [none, none, none], .val [none, none, none]]
def gq139.sA : List SA := [.v (.agg [.int .i64, .int .i64, .str]), .v (.agg [.int .i64, .int .i64, .str])]
def gq139.fi : FI := FIs gq139.sA (Bool) (fun t => gq139 t.1.1 t.1.2.1 t.1.2.2.1 t.2.1.1 t.2.1.2.1 t.2.1.2.2.1) gq139.out gq139.ps
def gq139.E : Env := ⟨tt, lkF [], 20, 0, [], []⟩
theorem gq139.hok (hE : EOk Tryz.prog (gq139.E)) : HintOk Tryz.prog gq139.E (bodyOf Tryz.f139) (.a) := HintOk.n1 (Q := True) (by kernel_rfl) trivial
theorem gq139.hE : EOk Tryz.prog (gq139.E) := EOk.of ttOk (trivial)
theorem gq139.fok : FOk Tryz.prog 139 gq139.fi :=
 fokS (E := gq139.E) (wy := ⟨[[none]], [[], []], []⟩) (h := (fun gs => .a)) (G := fun t g => gq139.F (fun y0 => g y0) t.1.1 t.1.2.1 t.1.2.2.1 t.2.1.1 t.2.1.2.1 t.2.1.2.2.1) (by kernel_rfl) gq139.hE Tryz.func139 (by kernel_rfl) rfl (Nat.le_refl _) (fun t => HintOk.n1 (by kernel_rfl) (gq139.hok gq139.hE)) (fun t g => gq139.F_nat g (fun y0 => some y0) _ _ _ _ _ _) (fun t => by kernel_rfl)
def gq84.l1 {R : Type} (kke0 : Option R) (kkr : Bool → Option R) : Nat → List (El kkb53) → List (El kkb53) → Int → Option R
 | 0, _, _, _ => none
 | n + 1, a, b, i =>
  cond (decide (i < (List.length a : Int))) (
   grd (gIx i (List.length a)) <|
   grd (gIx i (List.length b)) <|
   (gq139 ((rdE kkb53 a (Int.toNat i)).1) ((rdE kkb53 a (Int.toNat i)).2.1) ((rdE kkb53 a (Int.toNat i)).2.2) ((rdE kkb53 b (Int.toNat i)).1) ((rdE kkb53 b (Int.toNat i)).2.1) ((rdE kkb53 b (Int.toNat i)).2.2)).bind fun r =>
   cond (!r) (kkr false) (gq84.l1 kke0 kkr n a b (IntKind.wrap .i64 (i + (1 : Int))))) (kke0)
theorem gq84.l1_nat {R S : Type} (g : R → Option S) (kke0 : Option R) (kkr : Bool → Option R) : ∀ n a b i, gq84.l1 (kke0.bind g) (fun y0 => (kkr y0).bind g) n a b i = (gq84.l1 kke0 kkr n a b i).bind g := by
 intro n
 induction n with
 | zero => intros; rfl
 | succ n ih => intros; simp only [gq84.l1, grd_bind, cnd_bind, bnd_bind, non_bind, ih]
def gq84.F {R : Type} (kk : Bool → Option R) (a : List (El kkb53)) (b : List (El kkb53)) : Option R :=
 cond ((List.length a : Int) != (List.length b : Int)) (kk false) (gq84.l1 (kk true) (fun b1 => kk b1) fuel a b (0 : Int))
theorem gq84.F_nat {R S : Type} (g : R → Option S) (kk : Bool → Option R) (a b) : gq84.F (fun y0 => (kk y0).bind g) a b = (gq84.F kk a b).bind g := by
 simp only [gq84.F, grd_bind, cnd_bind, bnd_bind, non_bind, ← gq84.l1_nat]
def gq84 (a : List (El kkb53)) (b : List (El kkb53)) : Option Bool := gq84.F (fun y0 => some y0) a b
def gq84.out : Bool → CRes := fun a => ⟨encL SV.enc [.one (.bool)] (a, ()), [encL SC.enc [] (), encL SC.enc [] ()]⟩
def gq84.ps : List PS := [.val [some (kkb53, false)], .val [some (kkb53, false)]]
def gq84.sA : List SA := [.v (.one (.slv [] kkb53)), .v (.one (.slv [] kkb53))]
def gq84.fi : FI := FIs gq84.sA (Bool) (fun t => gq84 t.1 t.2.1) gq84.out gq84.ps
def gq84.E : Env := ⟨tt, lkF [(139, gq139.fi)], 27, 0, [], []⟩
def gq84.sh1 : SK := ⟨[.v (.one (.slv [1] kkb53)), .v (.one (.slv [2] kkb53)), .v (.one (.int .i64))], []⟩
def gq84.sh1e0 : SK := ⟨[], []⟩
def gq84.sh1r : SK := ⟨[.v (.one (.bool))], []⟩
def gq84.ko1 : Ex → List CastAt × List Nat
 | .nrm => ([], [])
 | .ret => ([], [4])
 | .ext i => cond (Nat.beq i 0) ([], []) ([], [])
def gq84.G1 (n : Nat) (R : Type) (t : gq84.sh1.T) (K : Ex → Kp → Option R) : Option R := gq84.l1 (K (.ext 0) (SK.enc gq84.sh1e0 ((), ()))) (fun y0 => K .ret (SK.enc gq84.sh1r ((y0, ()), ()))) n t.1.1 t.1.2.1 t.1.2.2.1
def gq84.S1 : Sum := ⟨([], [0, 1, 5]), sumF gq84.sh1 (gq84.G1 fuel), gq84.ko1⟩
theorem gq84.ok1 (hE : EOk Tryz.prog (gq84.E)) : SumOk Tryz.prog gq84.E (cB (cR (cL (cR (cR (bodyOf Tryz.f84)))))) (gq84.S1) := by
 have hh : HintOk Tryz.prog gq84.E (cB (cB (cR (cL (cR (cR (bodyOf Tryz.f84))))))) (.a) := HintOk.n1 (Q := True) (by kernel_rfl) trivial
 have h := loopS (kin := ([], [0, 1, 5])) (kout := gq84.ko1) (sh := gq84.sh1) (F := gq84.G1) (ops_ok (hE.gv _)) (by kernel_rfl) hh (fun _ _ _ => rfl) (fun n R t K => by kernel_rfl) fuel
 exact HintOk.n1 (c := (cB (cR (cL (cR (cR (bodyOf Tryz.f84))))))) (h := .s (gq84.S1)) (P := Tryz.prog) (E := gq84.E) (by kernel_rfl) h
theorem gq84.hok (hE : EOk Tryz.prog (gq84.E)) : HintOk Tryz.prog gq84.E (bodyOf Tryz.f84) (.n (.a) (.n (.a) (.n (.n (.a) (.b (.s (gq84.S1)))) (.a)))) := HintOk.n1 (Q := (True) ∧ ((True) ∧ (((True) ∧ (SumOk Tryz.prog gq84.E (cB (cR (cL (cR (cR (bodyOf Tryz.f84)))))) (gq84.S1))) ∧ (True)))) (by kernel_rfl) ⟨trivial, ⟨trivial, ⟨⟨trivial, (gq84.ok1 hE)⟩, trivial⟩⟩⟩
theorem gq84.hE : EOk Tryz.prog (gq84.E) := EOk.of ttOk (⟨gq139.fok, trivial⟩)
theorem gq84.fok : FOk Tryz.prog 84 gq84.fi :=
 fokS (E := gq84.E) (wy := ⟨[[none]], [[], []], []⟩) (h := (fun gs => .n (.a) (.n (.a) (.n (.n (.a) (.b (.s (gq84.S1)))) (.a))))) (G := fun t g => gq84.F (fun y0 => g y0) t.1 t.2.1) (by kernel_rfl) gq84.hE Tryz.func84 (by kernel_rfl) rfl (Nat.le_refl _) (fun t => HintOk.n1 (by kernel_rfl) (gq84.hok gq84.hE)) (fun t g => gq84.F_nat g (fun y0 => some y0) _ _) (fun t => by kernel_rfl)
def gq37.F {R : Type} (kk : Bool → Option R) (a_Term : Int) (a_Vote : Int) (a_Log : List (El kkb53)) (b_Term : Int) (b_Vote : Int) (b_Log : List (El kkb53)) : Option R :=
 cond (a_Term != b_Term) (kk false) (
  cond (a_Vote != b_Vote) (kk false) (
   (gq84 a_Log b_Log).bind fun r =>
   cond (!r) (kk false) (kk true)))
theorem gq37.F_nat {R S : Type} (g : R → Option S) (kk : Bool → Option R) (a_Term a_Vote a_Log b_Term b_Vote b_Log) : gq37.F (fun y0 => (kk y0).bind g) a_Term a_Vote a_Log b_Term b_Vote b_Log = (gq37.F kk a_Term a_Vote a_Log b_Term b_Vote b_Log).bind g := by
 simp only [gq37.F, grd_bind, cnd_bind, bnd_bind, non_bind]
def gq37 (a_Term : Int) (a_Vote : Int) (a_Log : List (El kkb53)) (b_Term : Int) (b_Vote : Int) (b_Log : List (El kkb53)) : Option Bool := gq37.F (fun y0 => some y0) a_Term a_Vote a_Log b_Term b_Vote b_Log
def gq37.out : Bool → CRes := fun a => ⟨encL SV.enc [.one (.bool)] (a, ()), [encL SC.enc [] (), encL SC.enc [] ()]⟩
def gq37.ps : List PS := [.val [none, none, some (kkb53, false)], .val [none, none, some (kkb53, false)]]
def gq37.sA : List SA := [.v (.agg [.int .i64, .int .i64, .slv [] kkb53]), .v (.agg [.int .i64, .int .i64, .slv [] kkb53])]
def gq37.fi : FI := FIs gq37.sA (Bool) (fun t => gq37 t.1.1 t.1.2.1 t.1.2.2.1 t.2.1.1 t.2.1.2.1 t.2.1.2.2.1) gq37.out gq37.ps
def gq37.E : Env := ⟨tt, lkF [(84, gq84.fi)], 21, 0, [], []⟩
theorem gq37.hok (hE : EOk Tryz.prog (gq37.E)) : HintOk Tryz.prog gq37.E (bodyOf Tryz.f37) (.a) := HintOk.n1 (Q := True) (by kernel_rfl) trivial
theorem gq37.hE : EOk Tryz.prog (gq37.E) := EOk.of ttOk (⟨gq84.fok, trivial⟩)
theorem gq37.fok : FOk Tryz.prog 37 gq37.fi :=
 fokS (E := gq37.E) (wy := ⟨[[none]], [[], []], []⟩) (h := (fun gs => .a)) (G := fun t g => gq37.F (fun y0 => g y0) t.1.1 t.1.2.1 t.1.2.2.1 t.2.1.1 t.2.1.2.1 t.2.1.2.2.1) (by kernel_rfl) gq37.hE Tryz.func37 (by kernel_rfl) rfl (Nat.le_refl _) (fun t => HintOk.n1 (by kernel_rfl) (gq37.hok gq37.hE)) (fun t g => gq37.F_nat g (fun y0 => some y0) _ _ _ _ _ _) (fun t => by kernel_rfl)
def gq85.l1 {R : Type} (kke0 : Int → List (El kkb53) → Option R) : Nat → Int → Int → List (El kkb53) → Option R
 | 0, _, _, _ => none
 | n + 1, k_, i, a =>
  cond (decide (i < (List.length a : Int))) (
   grd (gIx i (List.length a)) <|
   grd (gIx i (List.length (setE kkb53 a (Int.toNat i) (k_, (rdE kkb53 a (Int.toNat i)).2)))) <|
   (gq109 (IntKind.wrap .i64 ((IntKind.wrap .i64 (k_ + (1 : Int))) + (1 : Int)))).bind fun r =>
   grd (gIx i (List.length (setE kkb53 (setE kkb53 a (Int.toNat i) (k_, (rdE kkb53 a (Int.toNat i)).2)) (Int.toNat i) ((rdE kkb53 (setE kkb53 a (Int.toNat i) (k_, (rdE kkb53 a (Int.toNat i)).2)) (Int.toNat i)).1, (IntKind.wrap .i64 (k_ + (1 : Int)), (rdE kkb53 (setE kkb53 a (Int.toNat i) (k_, (rdE kkb53 a (Int.toNat i)).2)) (Int.toNat i)).2.2))))) <|
   gq85.l1 kke0 n (IntKind.wrap .i64 ((IntKind.wrap .i64 ((IntKind.wrap .i64 (k_ + (1 : Int))) + (1 : Int))) + (1 : Int))) (IntKind.wrap .i64 (i + (1 : Int))) (setE kkb53 (setE kkb53 (setE kkb53 a (Int.toNat i) (k_, (rdE kkb53 a (Int.toNat i)).2)) (Int.toNat i) ((rdE kkb53 (setE kkb53 a (Int.toNat i) (k_, (rdE kkb53 a (Int.toNat i)).2)) (Int.toNat i)).1, (IntKind.wrap .i64 (k_ + (1 : Int)), (rdE kkb53 (setE kkb53 a (Int.toNat i) (k_, (rdE kkb53 a (Int.toNat i)).2)) (Int.toNat i)).2.2))) (Int.toNat i) ((rdE kkb53 (setE kkb53 (setE kkb53 a (Int.toNat i) (k_, (rdE kkb53 a (Int.toNat i)).2)) (Int.toNat i) ((rdE kkb53 (setE kkb53 a (Int.toNat i) (k_, (rdE kkb53 a (Int.toNat i)).2)) (Int.toNat i)).1, (IntKind.wrap .i64 (k_ + (1 : Int)), (rdE kkb53 (setE kkb53 a (Int.toNat i) (k_, (rdE kkb53 a (Int.toNat i)).2)) (Int.toNat i)).2.2))) (Int.toNat i)).1, ((rdE kkb53 (setE kkb53 (setE kkb53 a (Int.toNat i) (k_, (rdE kkb53 a (Int.toNat i)).2)) (Int.toNat i) ((rdE kkb53 (setE kkb53 a (Int.toNat i) (k_, (rdE kkb53 a (Int.toNat i)).2)) (Int.toNat i)).1, (IntKind.wrap .i64 (k_ + (1 : Int)), (rdE kkb53 (setE kkb53 a (Int.toNat i) (k_, (rdE kkb53 a (Int.toNat i)).2)) (Int.toNat i)).2.2))) (Int.toNat i)).2.1, r)))) (kke0 k_ a)
theorem gq85.l1_nat {R S : Type} (g : R → Option S) (kke0 : Int → List (El kkb53) → Option R) : ∀ n k_ i a, gq85.l1 (fun y0 y1 => (kke0 y0 y1).bind g) n k_ i a = (gq85.l1 kke0 n k_ i a).bind g := by
 intro n
 induction n with
 | zero => intros; rfl
 | succ n ih => intros; simp only [gq85.l1, grd_bind, cnd_bind, bnd_bind, non_bind, ih]
def gq85.F {R : Type} (kk : Int → List (El kkb53) → Option R) (a : List (El kkb53)) (k_ : Int) : Option R :=
 gq85.l1 (fun k_1 a1 => kk k_1 a1) fuel k_ (0 : Int) a
theorem gq85.F_nat {R S : Type} (g : R → Option S) (kk : Int → List (El kkb53) → Option R) (a k_) : gq85.F (fun y0 y1 => (kk y0 y1).bind g) a k_ = (gq85.F kk a k_).bind g := by
 simp only [gq85.F, grd_bind, cnd_bind, bnd_bind, non_bind, ← gq85.l1_nat]
def gq85 (a : List (El kkb53)) (k_ : Int) : Option (Int × List (El kkb53)) := gq85.F (fun y0 y1 => some (y0, y1)) a k_
def gq85.out : (Int × List (El kkb53)) → CRes := fun a => ⟨encL SV.enc [.one (.int .i64)] (a.1, ()), [encL SC.enc [.own [] kkb53 true] (a.2, ()), encL SC.enc [] ()]⟩
def gq85.ps : List PS := [.val [some (kkb53, true)], .val [none]]
def gq85.sA : List SA := [.v (.one (.own [] kkb53 true)), .v (.one (.int .i64))]
def gq85.fi : FI := FIs gq85.sA (Int × List (El kkb53)) (fun t => gq85 t.1 t.2.1) gq85.out gq85.ps
def gq85.E : Env := ⟨tt, lkF [(109, gq109.fi)], 35, 1, [], []⟩
def gq85.sh1 : SK := ⟨[.v (.one (.slo 0)), .v (.one (.int .i64)), .v (.one (.int .i64))], [.arr kkb53 [] true]⟩
def gq85.sh1e0 : SK := ⟨[.v (.one (.int .i64))], [.arr kkb53 [] true]⟩
def gq85.ko1 : Ex → List CastAt × List Nat
 | .nrm => ([], [])
 | .ret => ([], [])
 | .ext i => cond (Nat.beq i 0) ([], [1]) ([], [])
def gq85.G1 (n : Nat) (R : Type) (t : gq85.sh1.T) (K : Ex → Kp → Option R) : Option R := gq85.l1 (fun y0 y1 => K (.ext 0) (SK.enc gq85.sh1e0 ((y0, ()), (y1, ())))) n t.1.2.1 t.1.2.2.1 t.2.1
def gq85.S1 : Sum := ⟨([], [0, 1, 5]), sumF gq85.sh1 (gq85.G1 fuel), gq85.ko1⟩
theorem gq85.ok1 (hE : EOk Tryz.prog (gq85.E)) : SumOk Tryz.prog gq85.E (cB (cR (cL (cR (bodyOf Tryz.f85))))) (gq85.S1) := by
 have hh : HintOk Tryz.prog gq85.E (cB (cB (cR (cL (cR (bodyOf Tryz.f85)))))) (.a) := HintOk.n1 (Q := True) (by kernel_rfl) trivial
 have h := loopS (kin := ([], [0, 1, 5])) (kout := gq85.ko1) (sh := gq85.sh1) (F := gq85.G1) (ops_ok (hE.gv _)) (by kernel_rfl) hh (fun _ _ _ => rfl) (fun n R t K => by kernel_rfl) fuel
 exact HintOk.n1 (c := (cB (cR (cL (cR (bodyOf Tryz.f85)))))) (h := .s (gq85.S1)) (P := Tryz.prog) (E := gq85.E) (by kernel_rfl) h
theorem gq85.hok (hE : EOk Tryz.prog (gq85.E)) : HintOk Tryz.prog gq85.E (bodyOf Tryz.f85) (.n (.a) (.n (.n (.a) (.b (.s (gq85.S1)))) (.a))) := HintOk.n1 (Q := (True) ∧ (((True) ∧ (SumOk Tryz.prog gq85.E (cB (cR (cL (cR (bodyOf Tryz.f85))))) (gq85.S1))) ∧ (True))) (by kernel_rfl) ⟨trivial, ⟨⟨trivial, (gq85.ok1 hE)⟩, trivial⟩⟩
theorem gq85.hE : EOk Tryz.prog (gq85.E) := EOk.of ttOk (⟨gq109.fok, trivial⟩)
theorem gq85.fok : FOk Tryz.prog 85 gq85.fi :=
 fokS (E := gq85.E) (wy := ⟨[[none]], [[], []], []⟩) (h := (fun gs => .n (.a) (.n (.n (.a) (.b (.s (gq85.S1)))) (.a)))) (G := fun t g => gq85.F (fun y0 y1 => g (y0, y1)) t.1 t.2.1) (by kernel_rfl) gq85.hE Tryz.func85 (by kernel_rfl) rfl (Nat.le_refl _) (fun t => HintOk.n1 (by kernel_rfl) (gq85.hok gq85.hE)) (fun t g => gq85.F_nat g (fun y0 y1 => some (y0, y1)) _ _) (fun t => by kernel_rfl)
def gq38.F {R : Type} (kk : Int → List (El kkb53) → Option R) (a_Term : Int) (a_Vote : Int) (a_Log : List (El kkb53)) (k_ : Int) : Option R :=
 (gq85 a_Log k_).bind fun r =>
 kk r.1 r.2
theorem gq38.F_nat {R S : Type} (g : R → Option S) (kk : Int → List (El kkb53) → Option R) (a_Term a_Vote a_Log k_) : gq38.F (fun y0 y1 => (kk y0 y1).bind g) a_Term a_Vote a_Log k_ = (gq38.F kk a_Term a_Vote a_Log k_).bind g := by
 simp only [gq38.F, grd_bind, cnd_bind, bnd_bind, non_bind]
def gq38 (a_Term : Int) (a_Vote : Int) (a_Log : List (El kkb53)) (k_ : Int) : Option (Int × List (El kkb53)) := gq38.F (fun y0 y1 => some (y0, y1)) a_Term a_Vote a_Log k_
def gq38.out : (Int × List (El kkb53)) → CRes := fun a => ⟨encL SV.enc [.one (.int .i64)] (a.1, ()), [encL SC.enc [.own [] kkb53 true] (a.2, ()), encL SC.enc [] ()]⟩
def gq38.ps : List PS := [.val [none, none, some (kkb53, true)], .val [none]]
def gq38.sA : List SA := [.v (.agg [.int .i64, .int .i64, .own [] kkb53 true]), .v (.one (.int .i64))]
def gq38.fi : FI := FIs gq38.sA (Int × List (El kkb53)) (fun t => gq38 t.1.1 t.1.2.1 t.1.2.2.1 t.2.1) gq38.out gq38.ps
def gq38.E : Env := ⟨tt, lkF [(85, gq85.fi)], 10, 1, [], []⟩
theorem gq38.hok (hE : EOk Tryz.prog (gq38.E)) : HintOk Tryz.prog gq38.E (bodyOf Tryz.f38) (.a) := HintOk.n1 (Q := True) (by kernel_rfl) trivial
theorem gq38.hE : EOk Tryz.prog (gq38.E) := EOk.of ttOk (⟨gq85.fok, trivial⟩)
theorem gq38.fok : FOk Tryz.prog 38 gq38.fi :=
 fokS (E := gq38.E) (wy := ⟨[[none]], [[], []], []⟩) (h := (fun gs => .a)) (G := fun t g => gq38.F (fun y0 y1 => g (y0, y1)) t.1.1 t.1.2.1 t.1.2.2.1 t.2.1) (by kernel_rfl) gq38.hE Tryz.func38 (by kernel_rfl) rfl (Nat.le_refl _) (fun t => HintOk.n1 (by kernel_rfl) (gq38.hok gq38.hE)) (fun t g => gq38.F_nat g (fun y0 y1 => some (y0, y1)) _ _ _ _) (fun t => by kernel_rfl)
def gq6.F {R : Type} (kk : Bool → Option R) (aD_Room : Int) (aD_Files : List (El kFile)) (aWas_Term : Int) (aWas_Vote : Int) (aWas_Log : List (El kkb53)) (aNow_Term : Int) (aNow_Vote : Int) (aNow_Log : List (El kkb53)) : Option R :=
 (gq10 aD_Room aD_Files (1048576 : Int)).bind fun r =>
 cond (decide (r < (0 : Int))) (kk true) (
  (gq33 aWas_Term aWas_Vote aWas_Log r).bind fun r1 =>
  cond (decide (r1 < (0 : Int))) (kk true) (
   (gq33 aNow_Term aNow_Vote aNow_Log r1).bind fun r2 =>
   cond (decide (r2 < (0 : Int))) (kk true) (
    (gq12 aD_Room aD_Files).bind fun r3 =>
    (gq35 aWas_Term aWas_Vote aWas_Log).bind fun r4 =>
    (gq35 aNow_Term aNow_Vote aNow_Log).bind fun r5 =>
    (gq34 r3.1 r3.2 r4.1 r4.2.1 r4.2.2 r5.1 r5.2.1 r5.2.2).bind fun r6 =>
    (gq12 aD_Room aD_Files).bind fun r7 =>
    (gq35 aWas_Term aWas_Vote aWas_Log).bind fun r8 =>
    (gq35 aNow_Term aNow_Vote aNow_Log).bind fun r9 =>
    (gq36 r7.1 r7.2 r8.1 r8.2.1 r8.2.2 r9.1 r9.2.1 r9.2.2).bind fun r10 =>
    (gq14 r10.1 r10.2.1 r6.1 r6.2.1).bind fun r11 =>
    cond (!r11) (kk false) (
     cond (r10.2.2 != r6.2.2) (kk false) (
      (gq12 aD_Room aD_Files).bind fun r12 =>
      (gq14 r7.1 r7.2 r12.1 r12.2).bind fun r13 =>
      cond (!r13) (kk false) (
       (gq35 aWas_Term aWas_Vote aWas_Log).bind fun r14 =>
       (gq37 r8.1 r8.2.1 r8.2.2 r14.1 r14.2.1 r14.2.2).bind fun r15 =>
       cond (!r15) (kk false) (
        (gq35 aNow_Term aNow_Vote aNow_Log).bind fun r16 =>
        (gq37 r9.1 r9.2.1 r9.2.2 r16.1 r16.2.1 r16.2.2).bind fun r17 =>
        cond (!r17) (kk false) (
         (gq15 r7.1 r7.2 (1 : Int)).bind fun r18 =>
         (gq38 r8.1 r8.2.1 r8.2.2 r18.1).bind fun r19 =>
         (gq38 r9.1 r9.2.1 r9.2.2 r19.1).bind fun r20 =>
         cond (decide (r20.1 < (0 : Int))) (kk false) (
          (gq14 r10.1 r10.2.1 r6.1 r6.2.1).bind fun r21 =>
          cond (!r21) (kk false) (
           cond (r10.2.2 != r6.2.2) (kk false) (
            (gq15 r10.1 r10.2.1 (1 : Int)).bind fun r22 =>
            (gq16 r10.1 r22.2 (1 : Int)).bind fun r23 =>
            cond (decide (r23 < (0 : Int))) (kk false) (
             cond (r23 != r22.1) (kk false) (
              (gq12 aD_Room aD_Files).bind fun r24 =>
              (gq35 aWas_Term aWas_Vote aWas_Log).bind fun r25 =>
              (gq35 aNow_Term aNow_Vote aNow_Log).bind fun r26 =>
              (gq36 r24.1 r24.2 r25.1 r25.2.1 r25.2.2 r26.1 r26.2.1 r26.2.2).bind fun r27 =>
              (gq14 r27.1 r27.2.1 r6.1 r6.2.1).bind fun r28 =>
              cond (!r28) (kk false) (
               cond (r27.2.2 != r6.2.2) (kk false) (
                (gq16 r10.1 r22.2 (1 : Int)).bind fun r29 =>
                cond (decide (r29 < (0 : Int))) (kk false) (cond (r29 != r22.1) (kk false) (kk true)))))))))))))))))
theorem gq6.F_nat {R S : Type} (g : R → Option S) (kk : Bool → Option R) (aD_Room aD_Files aWas_Term aWas_Vote aWas_Log aNow_Term aNow_Vote aNow_Log) : gq6.F (fun y0 => (kk y0).bind g) aD_Room aD_Files aWas_Term aWas_Vote aWas_Log aNow_Term aNow_Vote aNow_Log = (gq6.F kk aD_Room aD_Files aWas_Term aWas_Vote aWas_Log aNow_Term aNow_Vote aNow_Log).bind g := by
 simp only [gq6.F, grd_bind, cnd_bind, bnd_bind, non_bind]
def gq6 (aD_Room : Int) (aD_Files : List (El kFile)) (aWas_Term : Int) (aWas_Vote : Int) (aWas_Log : List (El kkb53)) (aNow_Term : Int) (aNow_Vote : Int) (aNow_Log : List (El kkb53)) : Option Bool := gq6.F (fun y0 => some y0) aD_Room aD_Files aWas_Term aWas_Vote aWas_Log aNow_Term aNow_Vote aNow_Log
def gq6.out : Bool → CRes := fun a => ⟨encL SV.enc [.one (.bool)] (a, ()), [encL SC.enc [] (), encL SC.enc [] (), encL SC.enc [] ()]⟩
def gq6.ps : List PS := [.val [none, some (kFile, false)], .val [none, none, some (kkb53, false)], .val [none, none, some (kkb53, false)]]
def gq6.sA : List SA := [.v (.agg [.int .i64, .slv [] kFile]), .v (.agg [.int .i64, .int .i64, .slv [] kkb53]), .v (.agg [.int .i64, .int .i64, .slv [] kkb53])]
def gq6.fi : FI := FIs gq6.sA (Bool) (fun t => gq6 t.1.1 t.1.2.1 t.2.1.1 t.2.1.2.1 t.2.1.2.2.1 t.2.2.1.1 t.2.2.1.2.1 t.2.2.1.2.2.1) gq6.out gq6.ps
def gq6.E : Env := ⟨tt, lkF [(10, gq10.fi), (12, gq12.fi), (14, gq14.fi), (15, gq15.fi), (16, gq16.fi), (33, gq33.fi), (34, gq34.fi), (35, gq35.fi), (36, gq36.fi), (37, gq37.fi), (38, gq38.fi)], 142, 0, [], []⟩
theorem gq6.hok (hE : EOk Tryz.prog (gq6.E)) : HintOk Tryz.prog gq6.E (bodyOf Tryz.f6) (.a) := HintOk.n1 (Q := True) (by kernel_rfl) trivial
theorem gq6.hE : EOk Tryz.prog (gq6.E) := EOk.of ttOk (⟨gq10.fok, ⟨gq12.fok, ⟨gq14.fok, ⟨gq15.fok, ⟨gq16.fok, ⟨gq33.fok, ⟨gq34.fok, ⟨gq35.fok, ⟨gq36.fok, ⟨gq37.fok, ⟨gq38.fok, trivial⟩⟩⟩⟩⟩⟩⟩⟩⟩⟩⟩)
theorem gq6.fok : FOk Tryz.prog 6 gq6.fi :=
 fokS (E := gq6.E) (wy := ⟨[[none]], [[], [], []], []⟩) (h := (fun gs => .a)) (G := fun t g => gq6.F (fun y0 => g y0) t.1.1 t.1.2.1 t.2.1.1 t.2.1.2.1 t.2.1.2.2.1 t.2.2.1.1 t.2.2.1.2.1 t.2.2.1.2.2.1) (by kernel_rfl) gq6.hE Tryz.func6 (by kernel_rfl) rfl (Nat.le_refl _) (fun t => HintOk.n1 (by kernel_rfl) (gq6.hok gq6.hE)) (fun t g => gq6.F_nat g (fun y0 => some y0) _ _ _ _ _ _ _ _) (fun t => by kernel_rfl)
end
end Go.Proofs.YtaanadbpnmcbcaaGreatDoorA
