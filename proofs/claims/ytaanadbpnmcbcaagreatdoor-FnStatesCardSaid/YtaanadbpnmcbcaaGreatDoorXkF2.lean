/-
  Functions of the program, and that the small machine's runs are these. No condition.
  Printed by wip/amp/main.py (a session's own program) out of Lean's print of the program; Lean's kernel checks it.
-/
import Derived.Test.YtaanadbpnmcbcaaGreatDoorXkF1
namespace Go.Proofs.YtaanadbpnmcbcaaGreatDoorA
open Go
noncomputable section
set_option linter.unusedVariables false
set_option linter.unusedSimpArgs false
set_option maxRecDepth 100000
def gq80.j1 {R : Type} (kkn : Bool → Int → Int → List (El kkb53) → Int → Int → List (El kkb53) → List ByteArray → Option R) (was : Int) (was1 : Int) (was2 : List (El kkb53)) (now : Int) (now1 : Int) (now2 : List (El kkb53)) (out : List ByteArray) : Option R :=
 cond (was != now) (kkn true was was1 was2 now now1 now2 out) (kkn (was1 != now1) was was1 was2 now now1 now2 out)
theorem gq80.j1_nat {R S : Type} (g : R → Option S) (kkn : Bool → Int → Int → List (El kkb53) → Int → Int → List (El kkb53) → List ByteArray → Option R) (was was1 was2 now now1 now2 out) : gq80.j1 (fun y0 y1 y2 y3 y4 y5 y6 y7 => (kkn y0 y1 y2 y3 y4 y5 y6 y7).bind g) was was1 was2 now now1 now2 out = (gq80.j1 kkn was was1 was2 now now1 now2 out).bind g := by
 simp only [gq80.j1, grd_bind, cnd_bind, bnd_bind, non_bind]
def gq80.j2 {R : Type} (kkn : Int → Int → List (El kkb53) → Int → Int → List (El kkb53) → List ByteArray → Option R) (was : Int) (was1 : Int) (was2 : List (El kkb53)) (now : Int) (now1 : Int) (now2 : List (El kkb53)) (out : List ByteArray) : Option R :=
 gq80.j1 (fun b was3 was4 was5 now3 now4 now5 out1 =>
  cond (b) (
   (gq133 now3).bind fun r =>
   grd (gCat (⟨#[84]⟩ : ByteArray) (strL r)) <|
   grd (gCat ((⟨#[84]⟩ : ByteArray) ++ (strL r)) (strL [IntKind.wrap .u8 (IntKind.wrap .i64 (now4 + (1 : Int)))])) <|
   grd (gRm (((List.length out1) + (List.length ([((⟨#[84]⟩ : ByteArray) ++ (strL r)) ++ (strL [IntKind.wrap .u8 (IntKind.wrap .i64 (now4 + (1 : Int)))])]))) * 16)) <|
   kkn was3 was4 was5 now3 now4 now5 (out1 ++ ([((⟨#[84]⟩ : ByteArray) ++ (strL r)) ++ (strL [IntKind.wrap .u8 (IntKind.wrap .i64 (now4 + (1 : Int)))])]))) (kkn was3 was4 was5 now3 now4 now5 out1)) was was1 was2 now now1 now2 out
theorem gq80.j2_nat {R S : Type} (g : R → Option S) (kkn : Int → Int → List (El kkb53) → Int → Int → List (El kkb53) → List ByteArray → Option R) (was was1 was2 now now1 now2 out) : gq80.j2 (fun y0 y1 y2 y3 y4 y5 y6 => (kkn y0 y1 y2 y3 y4 y5 y6).bind g) was was1 was2 now now1 now2 out = (gq80.j2 kkn was was1 was2 now now1 now2 out).bind g := by
 simp only [gq80.j2, grd_bind, cnd_bind, bnd_bind, non_bind, ← gq80.j1_nat]
def gq80.l3 {R : Type} (kke0 : Int → Int → Int → List (El kkb53) → Int → Int → List (El kkb53) → List ByteArray → Option R) : Nat → Int → Int → Int → List (El kkb53) → Int → Int → List (El kkb53) → List ByteArray → Option R
 | 0, _, _, _, _, _, _, _, _ => none
 | n + 1, k_, was, was1, was2, now, now1, now2, out =>
  cond (decide (k_ < (List.length was2 : Int))) (
   cond (decide (k_ < (List.length now2 : Int))) (
    grd (gIx k_ (List.length was2)) <|
    grd (gIx k_ (List.length now2)) <|
    cond (((rdE kkb53 was2 (Int.toNat k_)).1 == (rdE kkb53 now2 (Int.toNat k_)).1) && (((rdE kkb53 was2 (Int.toNat k_)).2.1 == (rdE kkb53 now2 (Int.toNat k_)).2.1) && (sEq (rdE kkb53 was2 (Int.toNat k_)).2.2 (rdE kkb53 now2 (Int.toNat k_)).2.2))) (
     gq80.l3 kke0 n (IntKind.wrap .i64 (k_ + (1 : Int))) was was1 was2 now now1 now2 out) (kke0 k_ was was1 was2 now now1 now2 out)) (kke0 k_ was was1 was2 now now1 now2 out)) (kke0 k_ was was1 was2 now now1 now2 out)
theorem gq80.l3_nat {R S : Type} (g : R → Option S) (kke0 : Int → Int → Int → List (El kkb53) → Int → Int → List (El kkb53) → List ByteArray → Option R) : ∀ n k_ was was1 was2 now now1 now2 out, gq80.l3 (fun y0 y1 y2 y3 y4 y5 y6 y7 => (kke0 y0 y1 y2 y3 y4 y5 y6 y7).bind g) n k_ was was1 was2 now now1 now2 out = (gq80.l3 kke0 n k_ was was1 was2 now now1 now2 out).bind g := by
 intro n
 induction n with
 | zero => intros; rfl
 | succ n ih => intros; simp only [gq80.l3, grd_bind, cnd_bind, bnd_bind, non_bind, ih]
def gq80.j4 {R : Type} (kkn : Int → Int → Int → List (El kkb53) → List ByteArray → Option R) (k_ : Int) (was : Int) (was1 : Int) (was2 : List (El kkb53)) (now : Int) (now1 : Int) (now2 : List (El kkb53)) (out : List ByteArray) : Option R :=
 cond (decide (k_ < (List.length was2 : Int))) (
  (gq133 k_).bind fun r =>
  grd (gCat (⟨#[67]⟩ : ByteArray) (strL r)) <|
  grd (gRm (((List.length out) + (List.length ([(⟨#[67]⟩ : ByteArray) ++ (strL r)]))) * 16)) <|
  kkn k_ now now1 now2 (out ++ ([(⟨#[67]⟩ : ByteArray) ++ (strL r)]))) (kkn k_ now now1 now2 out)
theorem gq80.j4_nat {R S : Type} (g : R → Option S) (kkn : Int → Int → Int → List (El kkb53) → List ByteArray → Option R) (k_ was was1 was2 now now1 now2 out) : gq80.j4 (fun y0 y1 y2 y3 y4 => (kkn y0 y1 y2 y3 y4).bind g) k_ was was1 was2 now now1 now2 out = (gq80.j4 kkn k_ was was1 was2 now now1 now2 out).bind g := by
 simp only [gq80.j4, grd_bind, cnd_bind, bnd_bind, non_bind]
def gq80.l5 {R : Type} (kke2 : List ByteArray → Option R) : Nat → Int → Int → Int → List (El kkb53) → List ByteArray → Option R
 | 0, _, _, _, _, _ => none
 | n + 1, i, now, now1, now2, out =>
  cond (decide (i < (List.length now2 : Int))) (
   grd (gIx i (List.length now2)) <|
   (gq134 ((rdE kkb53 now2 (Int.toNat i)).1) ((rdE kkb53 now2 (Int.toNat i)).2.1) ((rdE kkb53 now2 (Int.toNat i)).2.2)).bind fun r =>
   grd (gCat (⟨#[69]⟩ : ByteArray) (strL r)) <|
   grd (gRm (((List.length out) + (List.length ([(⟨#[69]⟩ : ByteArray) ++ (strL r)]))) * 16)) <|
   gq80.l5 kke2 n (IntKind.wrap .i64 (i + (1 : Int))) now now1 now2 (out ++ ([(⟨#[69]⟩ : ByteArray) ++ (strL r)]))) (kke2 out)
theorem gq80.l5_nat {R S : Type} (g : R → Option S) (kke2 : List ByteArray → Option R) : ∀ n i now now1 now2 out, gq80.l5 (fun y0 => (kke2 y0).bind g) n i now now1 now2 out = (gq80.l5 kke2 n i now now1 now2 out).bind g := by
 intro n
 induction n with
 | zero => intros; rfl
 | succ n ih => intros; simp only [gq80.l5, grd_bind, cnd_bind, bnd_bind, non_bind, ih]
def gq80.F {R : Type} (kk : List ByteArray → Option R) (was_Term : Int) (was_Vote : Int) (was_Log : List (El kkb53)) (now_Term : Int) (now_Vote : Int) (now_Log : List (El kkb53)) : Option R :=
 gq80.j2 (fun was was1 was2 now now1 now2 out =>
  gq80.l3 (fun k_ was3 was4 was5 now3 now4 now5 out1 =>
   gq80.j4 (fun k_1 now6 now7 now8 out2 => gq80.l5 (fun out3 => kk out3) fuel k_1 now6 now7 now8 out2) k_ was3 was4 was5 now3 now4 now5 out1) fuel (0 : Int) was was1 was2 now now1 now2 out) was_Term was_Vote was_Log now_Term now_Vote now_Log ([] : List ByteArray)
theorem gq80.F_nat {R S : Type} (g : R → Option S) (kk : List ByteArray → Option R) (was_Term was_Vote was_Log now_Term now_Vote now_Log) : gq80.F (fun y0 => (kk y0).bind g) was_Term was_Vote was_Log now_Term now_Vote now_Log = (gq80.F kk was_Term was_Vote was_Log now_Term now_Vote now_Log).bind g := by
 simp only [gq80.F, grd_bind, cnd_bind, bnd_bind, non_bind, ← gq80.j2_nat, ← gq80.l3_nat, ← gq80.j4_nat, ← gq80.l5_nat]
def gq80 (was_Term : Int) (was_Vote : Int) (was_Log : List (El kkb53)) (now_Term : Int) (now_Vote : Int) (now_Log : List (El kkb53)) : Option (List ByteArray) := gq80.F (fun y0 => some y0) was_Term was_Vote was_Log now_Term now_Vote now_Log
def gq80.out : (List ByteArray) → CRes := fun a => ⟨encL SV.enc [.one (.own [] .str true)] (a, ()), [encL SC.enc [] (), encL SC.enc [] ()]⟩
def gq80.ps : List PS := [.val [none, none, some (kkb53, false)], .val [none, none, some (kkb53, false)]]
def gq80.sA : List SA := [.v (.agg [.int .i64, .int .i64, .slv [] kkb53]), .v (.agg [.int .i64, .int .i64, .slv [] kkb53])]
def gq80.fi : FI := FIs gq80.sA (List ByteArray) (fun t => gq80 t.1.1 t.1.2.1 t.1.2.2.1 t.2.1.1 t.2.1.2.1 t.2.1.2.2.1) gq80.out gq80.ps
def gq80.E : Env := ⟨tt, lkF [(133, gq133.fi), (134, gq134.fi)], 95, 0, [], []⟩
def gq80.sh1 : SK := ⟨[.v (.one (.bptr 0 0)), .v (.one (.bptr 1 0)), .v (.one (.slo 2))], [.box [.int .i64, .int .i64, .slv [1] kkb53], .box [.int .i64, .int .i64, .slv [2] kkb53], .arr .str [] true]⟩
def gq80.sh1n : SK := ⟨[.v (.one (.bptr 0 0)), .v (.one (.bptr 1 0)), .v (.one (.slo 2)), .v (.one (.bool))], [.box [.int .i64, .int .i64, .slv [1] kkb53], .box [.int .i64, .int .i64, .slv [2] kkb53], .arr .str [] true]⟩
def gq80.ko1 : Ex → List CastAt × List Nat
 | .nrm => ([], [2, 3, 5, 20])
 | .ret => ([], [])
 | .ext i => ([], [])
def gq80.G1 (R : Type) (t : gq80.sh1.T) (K : Ex → Kp → Option R) : Option R := gq80.j1 (fun y0 y1 y2 y3 y4 y5 y6 y7 => K .nrm (SK.enc gq80.sh1n (((), (), (), y0, ()), ((y1, y2, y3, ()), (y4, y5, y6, ()), y7, ())))) t.2.1.1 t.2.1.2.1 t.2.1.2.2.1 t.2.2.1.1 t.2.2.1.2.1 t.2.2.1.2.2.1 t.2.2.2.1
def gq80.S1 : Sum := ⟨([], [2, 3, 5]), sumF gq80.sh1 (gq80.G1), gq80.ko1⟩
theorem gq80.ok1 (hE : EOk Tryz.prog (gq80.E)) : SumOk Tryz.prog gq80.E (cL (cL (cR (cR (bodyOf Tryz.f80))))) (gq80.S1) := by
 have hh : HintOk Tryz.prog gq80.E (cL (cL (cR (cR (bodyOf Tryz.f80))))) (.a) := HintOk.n1 (Q := True) (by kernel_rfl) trivial
 exact sumS (kin := ([], [2, 3, 5])) (kout := gq80.ko1) (sh := gq80.sh1) (F := gq80.G1) (ops_ok (hE.gv _)) (by kernel_rfl) hh (fun R t K => by kernel_rfl)
def gq80.sh2 : SK := ⟨[.v (.one (.bptr 0 0)), .v (.one (.bptr 1 0)), .v (.one (.slo 2))], [.box [.int .i64, .int .i64, .slv [1] kkb53], .box [.int .i64, .int .i64, .slv [2] kkb53], .arr .str [] true]⟩
def gq80.sh2n : SK := ⟨[.v (.one (.bptr 0 0)), .v (.one (.bptr 1 0)), .v (.one (.slo 2))], [.box [.int .i64, .int .i64, .slv [1] kkb53], .box [.int .i64, .int .i64, .slv [2] kkb53], .arr .str [] true]⟩
def gq80.ko2 : Ex → List CastAt × List Nat
 | .nrm => ([], [2, 3, 5])
 | .ret => ([], [])
 | .ext i => ([], [])
def gq80.G2 (R : Type) (t : gq80.sh2.T) (K : Ex → Kp → Option R) : Option R := gq80.j2 (fun y0 y1 y2 y3 y4 y5 y6 => K .nrm (SK.enc gq80.sh2n (((), (), (), ()), ((y0, y1, y2, ()), (y3, y4, y5, ()), y6, ())))) t.2.1.1 t.2.1.2.1 t.2.1.2.2.1 t.2.2.1.1 t.2.2.1.2.1 t.2.2.1.2.2.1 t.2.2.2.1
def gq80.S2 : Sum := ⟨([], [2, 3, 5]), sumF gq80.sh2 (gq80.G2), gq80.ko2⟩
theorem gq80.ok2 (hE : EOk Tryz.prog (gq80.E)) : SumOk Tryz.prog gq80.E (cL (cR (cR (bodyOf Tryz.f80)))) (gq80.S2) := by
 have hh : HintOk Tryz.prog gq80.E (cL (cR (cR (bodyOf Tryz.f80)))) (.n (.s (gq80.S1)) (.a)) := HintOk.n1 (Q := (SumOk Tryz.prog gq80.E (cL (cL (cR (cR (bodyOf Tryz.f80))))) (gq80.S1)) ∧ (True)) (by kernel_rfl) ⟨(gq80.ok1 hE), trivial⟩
 exact sumS (kin := ([], [2, 3, 5])) (kout := gq80.ko2) (sh := gq80.sh2) (F := gq80.G2) (ops_ok (hE.gv _)) (by kernel_rfl) hh (fun R t K => by kernel_rfl)
def gq80.sh3 : SK := ⟨[.v (.one (.bptr 0 0)), .v (.one (.bptr 1 0)), .v (.one (.slo 2)), .v (.one (.int .i64))], [.box [.int .i64, .int .i64, .slv [1] kkb53], .box [.int .i64, .int .i64, .slv [2] kkb53], .arr .str [] true]⟩
def gq80.sh3e0 : SK := ⟨[.v (.one (.bptr 0 0)), .v (.one (.bptr 1 0)), .v (.one (.slo 2)), .v (.one (.int .i64))], [.box [.int .i64, .int .i64, .slv [1] kkb53], .box [.int .i64, .int .i64, .slv [2] kkb53], .arr .str [] true]⟩
def gq80.ko3 : Ex → List CastAt × List Nat
 | .nrm => ([], [])
 | .ret => ([], [])
 | .ext i => cond (Nat.beq i 0) ([], [2, 3, 5, 6]) ([], [])
def gq80.G3 (n : Nat) (R : Type) (t : gq80.sh3.T) (K : Ex → Kp → Option R) : Option R := gq80.l3 (fun y0 y1 y2 y3 y4 y5 y6 y7 => K (.ext 0) (SK.enc gq80.sh3e0 (((), (), (), y0, ()), ((y1, y2, y3, ()), (y4, y5, y6, ()), y7, ())))) n t.1.2.2.2.1 t.2.1.1 t.2.1.2.1 t.2.1.2.2.1 t.2.2.1.1 t.2.2.1.2.1 t.2.2.1.2.2.1 t.2.2.2.1
def gq80.S3 : Sum := ⟨([], [2, 3, 5, 6]), sumF gq80.sh3 (gq80.G3 fuel), gq80.ko3⟩
theorem gq80.ok3 (hE : EOk Tryz.prog (gq80.E)) : SumOk Tryz.prog gq80.E (cB (cL (cR (cR (cR (cR (bodyOf Tryz.f80))))))) (gq80.S3) := by
 have hh : HintOk Tryz.prog gq80.E (cB (cB (cL (cR (cR (cR (cR (bodyOf Tryz.f80)))))))) (.a) := HintOk.n1 (Q := True) (by kernel_rfl) trivial
 have h := loopS (kin := ([], [2, 3, 5, 6])) (kout := gq80.ko3) (sh := gq80.sh3) (F := gq80.G3) (ops_ok (hE.gv _)) (by kernel_rfl) hh (fun _ _ _ => rfl) (fun n R t K => by kernel_rfl) fuel
 exact HintOk.n1 (c := (cB (cL (cR (cR (cR (cR (bodyOf Tryz.f80)))))))) (h := .s (gq80.S3)) (P := Tryz.prog) (E := gq80.E) (by kernel_rfl) h
def gq80.sh4 : SK := ⟨[.v (.one (.bptr 0 0)), .v (.one (.bptr 1 0)), .v (.one (.slo 2)), .v (.one (.int .i64))], [.box [.int .i64, .int .i64, .slv [1] kkb53], .box [.int .i64, .int .i64, .slv [2] kkb53], .arr .str [] true]⟩
def gq80.sh4n : SK := ⟨[.v (.one (.bptr 0 0)), .v (.one (.slo 1)), .v (.one (.int .i64))], [.box [.int .i64, .int .i64, .slv [2] kkb53], .arr .str [] true]⟩
def gq80.ko4 : Ex → List CastAt × List Nat
 | .nrm => ([], [3, 5, 6])
 | .ret => ([], [])
 | .ext i => ([], [])
def gq80.G4 (R : Type) (t : gq80.sh4.T) (K : Ex → Kp → Option R) : Option R := gq80.j4 (fun y0 y1 y2 y3 y4 => K .nrm (SK.enc gq80.sh4n (((), (), y0, ()), ((y1, y2, y3, ()), y4, ())))) t.1.2.2.2.1 t.2.1.1 t.2.1.2.1 t.2.1.2.2.1 t.2.2.1.1 t.2.2.1.2.1 t.2.2.1.2.2.1 t.2.2.2.1
def gq80.S4 : Sum := ⟨([], [2, 3, 5, 6]), sumF gq80.sh4 (gq80.G4), gq80.ko4⟩
theorem gq80.ok4 (hE : EOk Tryz.prog (gq80.E)) : SumOk Tryz.prog gq80.E (cL (cR (cR (cR (cR (cR (bodyOf Tryz.f80))))))) (gq80.S4) := by
 have hh : HintOk Tryz.prog gq80.E (cL (cR (cR (cR (cR (cR (bodyOf Tryz.f80))))))) (.a) := HintOk.n1 (Q := True) (by kernel_rfl) trivial
 exact sumS (kin := ([], [2, 3, 5, 6])) (kout := gq80.ko4) (sh := gq80.sh4) (F := gq80.G4) (ops_ok (hE.gv _)) (by kernel_rfl) hh (fun R t K => by kernel_rfl)
def gq80.sh5 : SK := ⟨[.v (.one (.bptr 0 0)), .v (.one (.slo 1)), .v (.one (.int .i64))], [.box [.int .i64, .int .i64, .slv [2] kkb53], .arr .str [] true]⟩
def gq80.sh5e2 : SK := ⟨[.v (.one (.slo 0))], [.arr .str [] true]⟩
def gq80.ko5 : Ex → List CastAt × List Nat
 | .nrm => ([], [])
 | .ret => ([], [])
 | .ext i => cond (Nat.beq i 2) ([], [5]) ([], [])
def gq80.G5 (n : Nat) (R : Type) (t : gq80.sh5.T) (K : Ex → Kp → Option R) : Option R := gq80.l5 (fun y0 => K (.ext 2) (SK.enc gq80.sh5e2 (((), ()), (y0, ())))) n t.1.2.2.1 t.2.1.1 t.2.1.2.1 t.2.1.2.2.1 t.2.2.1
def gq80.S5 : Sum := ⟨([], [3, 5, 7]), sumF gq80.sh5 (gq80.G5 fuel), gq80.ko5⟩
theorem gq80.ok5 (hE : EOk Tryz.prog (gq80.E)) : SumOk Tryz.prog gq80.E (cB (cR (cL (cR (cR (cR (cR (cR (cR (bodyOf Tryz.f80)))))))))) (gq80.S5) := by
 have hh : HintOk Tryz.prog gq80.E (cB (cB (cR (cL (cR (cR (cR (cR (cR (cR (bodyOf Tryz.f80))))))))))) (.a) := HintOk.n1 (Q := True) (by kernel_rfl) trivial
 have h := loopS (kin := ([], [3, 5, 7])) (kout := gq80.ko5) (sh := gq80.sh5) (F := gq80.G5) (ops_ok (hE.gv _)) (by kernel_rfl) hh (fun _ _ _ => rfl) (fun n R t K => by kernel_rfl) fuel
 exact HintOk.n1 (c := (cB (cR (cL (cR (cR (cR (cR (cR (cR (bodyOf Tryz.f80))))))))))) (h := .s (gq80.S5)) (P := Tryz.prog) (E := gq80.E) (by kernel_rfl) h
theorem gq80.hok (hE : EOk Tryz.prog (gq80.E)) : HintOk Tryz.prog gq80.E (bodyOf Tryz.f80) (.n (.a) (.n (.a) (.n (.s (gq80.S2)) (.n (.a) (.n (.b (.s (gq80.S3))) (.n (.s (gq80.S4)) (.n (.n (.a) (.b (.s (gq80.S5)))) (.a)))))))) := HintOk.n1 (Q := (True) ∧ ((True) ∧ ((SumOk Tryz.prog gq80.E (cL (cR (cR (bodyOf Tryz.f80)))) (gq80.S2)) ∧ ((True) ∧ ((SumOk Tryz.prog gq80.E (cB (cL (cR (cR (cR (cR (bodyOf Tryz.f80))))))) (gq80.S3)) ∧ ((SumOk Tryz.prog gq80.E (cL (cR (cR (cR (cR (cR (bodyOf Tryz.f80))))))) (gq80.S4)) ∧ (((True) ∧ (SumOk Tryz.prog gq80.E (cB (cR (cL (cR (cR (cR (cR (cR (cR (bodyOf Tryz.f80)))))))))) (gq80.S5))) ∧ (True)))))))) (by kernel_rfl) ⟨trivial, ⟨trivial, ⟨(gq80.ok2 hE), ⟨trivial, ⟨(gq80.ok3 hE), ⟨(gq80.ok4 hE), ⟨⟨trivial, (gq80.ok5 hE)⟩, trivial⟩⟩⟩⟩⟩⟩⟩
theorem gq80.hE : EOk Tryz.prog (gq80.E) := EOk.of ttOk (⟨gq133.fok, ⟨gq134.fok, trivial⟩⟩)
theorem gq80.fok : FOk Tryz.prog 80 gq80.fi :=
 fokS (E := gq80.E) (wy := ⟨[[some (.str, true)]], [[], []], []⟩) (h := (fun gs => .n (.a) (.n (.a) (.n (.s (gq80.S2)) (.n (.a) (.n (.b (.s (gq80.S3))) (.n (.s (gq80.S4)) (.n (.n (.a) (.b (.s (gq80.S5)))) (.a))))))))) (G := fun t g => gq80.F (fun y0 => g y0) t.1.1 t.1.2.1 t.1.2.2.1 t.2.1.1 t.2.1.2.1 t.2.1.2.2.1) (by kernel_rfl) gq80.hE Tryz.func80 (by kernel_rfl) rfl (Nat.le_refl _) (fun t => HintOk.n1 (by kernel_rfl) (gq80.hok gq80.hE)) (fun t g => gq80.F_nat g (fun y0 => some y0) _ _ _ _ _ _) (fun t => by kernel_rfl)
def gq40.F {R : Type} (kk : List ByteArray → Int → Option R) (was_Term : Int) (was_Vote : Int) (was_Log : List (El kkb53)) (now_Term : Int) (now_Vote : Int) (now_Log : List (El kkb53)) : Option R :=
 (gq79 was_Term was_Vote was_Log).bind fun r =>
 cond (!r) (kk ([] : List ByteArray) (1 : Int)) (
  (gq79 now_Term now_Vote now_Log).bind fun r1 =>
  cond (!r1) (kk ([] : List ByteArray) (1 : Int)) (
   (gq80 was_Term was_Vote was_Log now_Term now_Vote now_Log).bind fun r2 =>
   kk r2 (0 : Int)))
theorem gq40.F_nat {R S : Type} (g : R → Option S) (kk : List ByteArray → Int → Option R) (was_Term was_Vote was_Log now_Term now_Vote now_Log) : gq40.F (fun y0 y1 => (kk y0 y1).bind g) was_Term was_Vote was_Log now_Term now_Vote now_Log = (gq40.F kk was_Term was_Vote was_Log now_Term now_Vote now_Log).bind g := by
 simp only [gq40.F, grd_bind, cnd_bind, bnd_bind, non_bind]
def gq40 (was_Term : Int) (was_Vote : Int) (was_Log : List (El kkb53)) (now_Term : Int) (now_Vote : Int) (now_Log : List (El kkb53)) : Option (List ByteArray × Int) := gq40.F (fun y0 y1 => some (y0, y1)) was_Term was_Vote was_Log now_Term now_Vote now_Log
def gq40.out : (List ByteArray × Int) → CRes := fun a => ⟨encL SV.enc [.one (.own [] .str true), .one (.int .i64)] (a.1, a.2, ()), [encL SC.enc [] (), encL SC.enc [] ()]⟩
def gq40.ps : List PS := [.val [none, none, some (kkb53, false)], .val [none, none, some (kkb53, false)]]
def gq40.sA : List SA := [.v (.agg [.int .i64, .int .i64, .slv [] kkb53]), .v (.agg [.int .i64, .int .i64, .slv [] kkb53])]
def gq40.fi : FI := FIs gq40.sA (List ByteArray × Int) (fun t => gq40 t.1.1 t.1.2.1 t.1.2.2.1 t.2.1.1 t.2.1.2.1 t.2.1.2.2.1) gq40.out gq40.ps
def gq40.E : Env := ⟨tt, lkF [(79, gq79.fi), (80, gq80.fi)], 18, 0, [], []⟩
theorem gq40.hok (hE : EOk Tryz.prog (gq40.E)) : HintOk Tryz.prog gq40.E (bodyOf Tryz.f40) (.a) := HintOk.n1 (Q := True) (by kernel_rfl) trivial
theorem gq40.hE : EOk Tryz.prog (gq40.E) := EOk.of ttOk (⟨gq79.fok, ⟨gq80.fok, trivial⟩⟩)
theorem gq40.fok : FOk Tryz.prog 40 gq40.fi :=
 fokS (E := gq40.E) (wy := ⟨[[some (.str, true)], [none]], [[], []], []⟩) (h := (fun gs => .a)) (G := fun t g => gq40.F (fun y0 y1 => g (y0, y1)) t.1.1 t.1.2.1 t.1.2.2.1 t.2.1.1 t.2.1.2.1 t.2.1.2.2.1) (by kernel_rfl) gq40.hE Tryz.func40 (by kernel_rfl) rfl (Nat.le_refl _) (fun t => HintOk.n1 (by kernel_rfl) (gq40.hok gq40.hE)) (fun t g => gq40.F_nat g (fun y0 y1 => some (y0, y1)) _ _ _ _ _ _) (fun t => by kernel_rfl)
def gq21.F {R : Type} (kk : Int → List ByteArray → List ByteArray → Int → Int → Option R) (d_Room : Int) (d_Files : List (El kFile)) : Option R :=
 (gq65 d_Room d_Files).bind fun r =>
 cond (!r) (kk (0 : Int) [] [] (0 : Int) (1 : Int)) (
  (gq66 d_Room d_Files).bind fun r1 =>
  kk r1.1 r1.2.1 r1.2.2.1 r1.2.2.2.1 r1.2.2.2.2)
theorem gq21.F_nat {R S : Type} (g : R → Option S) (kk : Int → List ByteArray → List ByteArray → Int → Int → Option R) (d_Room d_Files) : gq21.F (fun y0 y1 y2 y3 y4 => (kk y0 y1 y2 y3 y4).bind g) d_Room d_Files = (gq21.F kk d_Room d_Files).bind g := by
 simp only [gq21.F, grd_bind, cnd_bind, bnd_bind, non_bind]
def gq21 (d_Room : Int) (d_Files : List (El kFile)) : Option (Int × List ByteArray × List ByteArray × Int × Int) := gq21.F (fun y0 y1 y2 y3 y4 => some (y0, y1, y2, y3, y4)) d_Room d_Files
def gq21.out : (Int × List ByteArray × List ByteArray × Int × Int) → CRes := fun a => ⟨encL SV.enc [.agg [.int .i64, .own [] .str true, .own [] .str true, .int .i64], .one (.int .i64)] ((a.1, a.2.1, a.2.2.1, a.2.2.2.1, ()), a.2.2.2.2, ()), [encL SC.enc [] ()]⟩
def gq21.ps : List PS := [.val [none, some (kFile, false)]]
def gq21.sA : List SA := [.v (.agg [.int .i64, .slv [] kFile])]
def gq21.fi : FI := FIs gq21.sA (Int × List ByteArray × List ByteArray × Int × Int) (fun t => gq21 t.1.1 t.1.2.1) gq21.out gq21.ps
def gq21.E : Env := ⟨tt, lkF [(65, gq65.fi), (66, gq66.fi)], 12, 0, [], []⟩
theorem gq21.hok (hE : EOk Tryz.prog (gq21.E)) : HintOk Tryz.prog gq21.E (bodyOf Tryz.f21) (.a) := HintOk.n1 (Q := True) (by kernel_rfl) trivial
theorem gq21.hE : EOk Tryz.prog (gq21.E) := EOk.of ttOk (⟨gq65.fok, ⟨gq66.fok, trivial⟩⟩)
theorem gq21.fok : FOk Tryz.prog 21 gq21.fi :=
 fokS (E := gq21.E) (wy := ⟨[[none, some (.str, true), some (.str, true), none], [none]], [[]], []⟩) (h := (fun gs => .a)) (G := fun t g => gq21.F (fun y0 y1 y2 y3 y4 => g (y0, y1, y2, y3, y4)) t.1.1 t.1.2.1) (by kernel_rfl) gq21.hE Tryz.func21 (by kernel_rfl) rfl (Nat.le_refl _) (fun t => HintOk.n1 (by kernel_rfl) (gq21.hok gq21.hE)) (fun t g => gq21.F_nat g (fun y0 y1 y2 y3 y4 => some (y0, y1, y2, y3, y4)) _ _) (fun t => by kernel_rfl)
def gq154.l1 {R : Type} (f : ((ByteArray × Unit) → Option (Bool × Unit))) (kke0 : Option R) (kkr : Int → Option R) : Nat → List ByteArray → Int → Int → Option R
 | 0, _, _, _ => none
 | n + 1, s, i, i1 =>
  cond (decide (i1 < i)) (
   grd (gIx i1 (List.length s)) <|
   (f (rdE (.str : Kd) s (Int.toNat i1), ())).bind fun r =>
   cond (r.1) (kkr i1) (gq154.l1 f kke0 kkr n s i (IntKind.wrap .i64 (i1 + (1 : Int))))) (kke0)
theorem gq154.l1_nat {R S : Type} (g : R → Option S) (f : ((ByteArray × Unit) → Option (Bool × Unit))) (kke0 : Option R) (kkr : Int → Option R) : ∀ n s i i1, gq154.l1 f (kke0.bind g) (fun y0 => (kkr y0).bind g) n s i i1 = (gq154.l1 f kke0 kkr n s i i1).bind g := by
 intro n
 induction n with
 | zero => intros; rfl
 | succ n ih => intros; simp only [gq154.l1, grd_bind, cnd_bind, bnd_bind, non_bind, ih]
def gq154.F {R : Type} (kk : Int → Option R) (s : List ByteArray) (f : ((ByteArray × Unit) → Option (Bool × Unit))) : Option R :=
 gq154.l1 f (kk (-1 : Int)) (fun i => kk i) fuel s (List.length s : Int) (0 : Int)
theorem gq154.F_nat {R S : Type} (g : R → Option S) (kk : Int → Option R) (s f) : gq154.F (fun y0 => (kk y0).bind g) s f = (gq154.F kk s f).bind g := by
 simp only [gq154.F, grd_bind, cnd_bind, bnd_bind, non_bind, ← gq154.l1_nat]
def gq154 (s : List ByteArray) (f : ((ByteArray × Unit) → Option (Bool × Unit))) : Option Int := gq154.F (fun y0 => some y0) s f
def gq154.out : Int → CRes := fun a => ⟨encL SV.enc [.one (.int .i64)] (a, ()), [encL SC.enc [] (), encL SC.enc [] ()]⟩
def gq154.ps : List PS := [.val [some (.str, false)], .fn [.one (.bool)]]
def gq154.sA : List SA := [.v (.one (.slv [] .str)), .fn [.one (.str)] [.one (.bool)]]
def gq154.fi : FI := FIs gq154.sA (Int) (fun t => gq154 t.1 t.2.1) gq154.out gq154.ps
def gq154.E : Env := ⟨tt, lkF [], 19, 0, [], []⟩
def gq154.sh1 : SK := ⟨[.v (.one (.slv [1] .str)), .v (.one (.fv 0)), .v (.one (.int .i64)), .v (.one (.int .i64))], []⟩
def gq154.sh1e0 : SK := ⟨[], []⟩
def gq154.sh1r : SK := ⟨[.v (.one (.int .i64))], []⟩
def gq154.ko1 : Ex → List CastAt × List Nat
 | .nrm => ([], [])
 | .ret => ([], [4])
 | .ext i => cond (Nat.beq i 0) ([], []) ([], [])
def gq154.G1 (f : ((ByteArray × Unit) → Option (Bool × Unit))) (n : Nat) (R : Type) (t : gq154.sh1.T) (K : Ex → Kp → Option R) : Option R := gq154.l1 f (K (.ext 0) (SK.enc gq154.sh1e0 ((), ()))) (fun y0 => K .ret (SK.enc gq154.sh1r ((y0, ()), ()))) n t.1.1 t.1.2.2.1 t.1.2.2.2.1
def gq154.S1 (f : ((ByteArray × Unit) → Option (Bool × Unit))) : Sum := ⟨([], [0, 1, 7, 8]), sumF gq154.sh1 (gq154.G1 f fuel), gq154.ko1⟩
theorem gq154.ok1 (f : ((ByteArray × Unit) → Option (Bool × Unit))) (hE : EOk Tryz.prog (gq154.E)) : SumOk Tryz.prog { (gq154.E) with gv := [fnE [.one (.str)] [.one (.bool)] f] } (cB (cR (cL (cR (bodyOf Tryz.f154))))) (gq154.S1 f) := by
 have hh : HintOk Tryz.prog { (gq154.E) with gv := [fnE [.one (.str)] [.one (.bool)] f] } (cB (cB (cR (cL (cR (bodyOf Tryz.f154)))))) (.a) := HintOk.n1 (Q := True) (by kernel_rfl) trivial
 have h := loopS (kin := ([], [0, 1, 7, 8])) (kout := gq154.ko1) (sh := gq154.sh1) (F := gq154.G1 f) (ops_ok (hE.gv _)) (by kernel_rfl) hh (fun _ _ _ => rfl) (fun n R t K => by kernel_rfl) fuel
 exact HintOk.n1 (c := (cB (cR (cL (cR (bodyOf Tryz.f154)))))) (h := .s (gq154.S1 f)) (P := Tryz.prog) (E := { (gq154.E) with gv := [fnE [.one (.str)] [.one (.bool)] f] }) (by kernel_rfl) h
theorem gq154.hok (f : ((ByteArray × Unit) → Option (Bool × Unit))) (hE : EOk Tryz.prog (gq154.E)) : HintOk Tryz.prog { (gq154.E) with gv := [fnE [.one (.str)] [.one (.bool)] f] } (bodyOf Tryz.f154) (.n (.a) (.n (.n (.a) (.b (.s (gq154.S1 f)))) (.a))) := HintOk.n1 (Q := (True) ∧ (((True) ∧ (SumOk Tryz.prog { (gq154.E) with gv := [fnE [.one (.str)] [.one (.bool)] f] } (cB (cR (cL (cR (bodyOf Tryz.f154))))) (gq154.S1 f))) ∧ (True))) (by kernel_rfl) ⟨trivial, ⟨⟨trivial, (gq154.ok1 f hE)⟩, trivial⟩⟩
theorem gq154.hE : EOk Tryz.prog (gq154.E) := EOk.of ttOk (trivial)
theorem gq154.fok : FOk Tryz.prog 154 gq154.fi :=
 fokS (E := gq154.E) (wy := ⟨[[none]], [[], []], []⟩) (h := (fun gs => let f := fnP [.one (.str)] [.one (.bool)] (gN 0 gs); .n (.a) (.n (.n (.a) (.b (.s (gq154.S1 f)))) (.a)))) (G := fun t g => gq154.F (fun y0 => g y0) t.1 t.2.1) (by kernel_rfl) gq154.hE Tryz.func154 (by kernel_rfl) rfl (Nat.le_refl _) (fun t => HintOk.n1 (by kernel_rfl) (gq154.hok t.2.1 gq154.hE)) (fun t g => gq154.F_nat g (fun y0 => some y0) _ _) (fun t => by kernel_rfl)
def gq117.F {R : Type} (kk : Bool → Option R) (s : List ByteArray) (f : ((ByteArray × Unit) → Option (Bool × Unit))) : Option R :=
 (gq154 s f).bind fun r =>
 kk (decide (r ≥ (0 : Int)))
theorem gq117.F_nat {R S : Type} (g : R → Option S) (kk : Bool → Option R) (s f) : gq117.F (fun y0 => (kk y0).bind g) s f = (gq117.F kk s f).bind g := by
 simp only [gq117.F, grd_bind, cnd_bind, bnd_bind, non_bind]
def gq117 (s : List ByteArray) (f : ((ByteArray × Unit) → Option (Bool × Unit))) : Option Bool := gq117.F (fun y0 => some y0) s f
def gq117.out : Bool → CRes := fun a => ⟨encL SV.enc [.one (.bool)] (a, ()), [encL SC.enc [] (), encL SC.enc [] ()]⟩
def gq117.ps : List PS := [.val [some (.str, false)], .fn [.one (.bool)]]
def gq117.sA : List SA := [.v (.one (.slv [] .str)), .fn [.one (.str)] [.one (.bool)]]
def gq117.fi : FI := FIs gq117.sA (Bool) (fun t => gq117 t.1 t.2.1) gq117.out gq117.ps
def gq117.E : Env := ⟨tt, lkF [(154, gq154.fi)], 9, 0, [], []⟩
theorem gq117.hok (f : ((ByteArray × Unit) → Option (Bool × Unit))) (hE : EOk Tryz.prog (gq117.E)) : HintOk Tryz.prog { (gq117.E) with gv := [fnE [.one (.str)] [.one (.bool)] f] } (bodyOf Tryz.f117) (.a) := HintOk.n1 (Q := True) (by kernel_rfl) trivial
theorem gq117.hE : EOk Tryz.prog (gq117.E) := EOk.of ttOk (⟨gq154.fok, trivial⟩)
theorem gq117.fok : FOk Tryz.prog 117 gq117.fi :=
 fokS (E := gq117.E) (wy := ⟨[[none]], [[], []], []⟩) (h := (fun gs => let f := fnP [.one (.str)] [.one (.bool)] (gN 0 gs); .a)) (G := fun t g => gq117.F (fun y0 => g y0) t.1 t.2.1) (by kernel_rfl) gq117.hE Tryz.func117 (by kernel_rfl) rfl (Nat.le_refl _) (fun t => HintOk.n1 (by kernel_rfl) (gq117.hok t.2.1 gq117.hE)) (fun t g => gq117.F_nat g (fun y0 => some y0) _ _) (fun t => by kernel_rfl)
def gq142.F {R : Type} (kk : Bool → Option R) (record : ByteArray) : Option R :=
 kk (decide ((ByteArray.size record : Int) > (110 : Int)))
theorem gq142.F_nat {R S : Type} (g : R → Option S) (kk : Bool → Option R) (record) : gq142.F (fun y0 => (kk y0).bind g) record = (gq142.F kk record).bind g := by
 simp only [gq142.F, grd_bind, cnd_bind, bnd_bind, non_bind]
def gq142 (record : ByteArray) : Option Bool := gq142.F (fun y0 => some y0) record
def gq142.out : Bool → CRes := fun a => ⟨encL SV.enc [.one (.bool)] (a, ()), [encL SC.enc [] ()]⟩
def gq142.ps : List PS := [.val [none]]
def gq142.sA : List SA := [.v (.one (.str))]
def gq142.fi : FI := FIs gq142.sA (Bool) (fun t => gq142 t.1) gq142.out gq142.ps
def gq142.E : Env := ⟨tt, lkF [], 6, 0, [], []⟩
theorem gq142.hok (hE : EOk Tryz.prog (gq142.E)) : HintOk Tryz.prog gq142.E (bodyOf Tryz.f142) (.a) := HintOk.n1 (Q := True) (by kernel_rfl) trivial
theorem gq142.hE : EOk Tryz.prog (gq142.E) := EOk.of ttOk (trivial)
theorem gq142.fok : FOk Tryz.prog 142 gq142.fi :=
 fokS (E := gq142.E) (wy := ⟨[[none]], [[]], []⟩) (h := (fun gs => .a)) (G := fun t g => gq142.F (fun y0 => g y0) t.1) (by kernel_rfl) gq142.hE Tryz.func142 (by kernel_rfl) rfl (Nat.le_refl _) (fun t => HintOk.n1 (by kernel_rfl) (gq142.hok gq142.hE)) (fun t g => gq142.F_nat g (fun y0 => some y0) _) (fun t => by kernel_rfl)
def gq191.F {R : Type} (kk : ByteArray → ByteArray → Bool → Option R) (r_s : ByteArray) (r_bad : Bool) (many : Int) : Option R :=
 cond (r_bad) (kk ByteArray.empty r_s true) (
  cond (decide (many > (ByteArray.size r_s : Int))) (kk ByteArray.empty r_s true) (
   grd (gSl (0 : Int) many (ByteArray.size r_s)) <|
   grd (gSl many (ByteArray.size r_s : Int) (ByteArray.size r_s)) <|
   kk (cut r_s (0 : Int) many) (cut r_s many (ByteArray.size r_s : Int)) r_bad))
theorem gq191.F_nat {R S : Type} (g : R → Option S) (kk : ByteArray → ByteArray → Bool → Option R) (r_s r_bad many) : gq191.F (fun y0 y1 y2 => (kk y0 y1 y2).bind g) r_s r_bad many = (gq191.F kk r_s r_bad many).bind g := by
 simp only [gq191.F, grd_bind, cnd_bind, bnd_bind, non_bind]
def gq191 (r_s : ByteArray) (r_bad : Bool) (many : Int) : Option (ByteArray × ByteArray × Bool) := gq191.F (fun y0 y1 y2 => some (y0, y1, y2)) r_s r_bad many
def gq191.out : (ByteArray × ByteArray × Bool) → CRes := fun a => ⟨encL SV.enc [.one (.str)] (a.1, ()), [encL SC.enc [.str, .bool] (a.2.1, a.2.2, ()), encL SC.enc [] ()]⟩
def gq191.ps : List PS := [.ptr [none, none], .val [none]]
def gq191.sA : List SA := [.ptr [.str, .bool], .v (.one (.int .i64))]
def gq191.fi : FI := FIs gq191.sA (ByteArray × ByteArray × Bool) (fun t => gq191 t.1.1 t.1.2.1 t.2.1) gq191.out gq191.ps
def gq191.E : Env := ⟨tt, lkF [], 38, 1, [], []⟩
theorem gq191.hok (hE : EOk Tryz.prog (gq191.E)) : HintOk Tryz.prog gq191.E (bodyOf Tryz.f191) (.a) := HintOk.n1 (Q := True) (by kernel_rfl) trivial
theorem gq191.hE : EOk Tryz.prog (gq191.E) := EOk.of ttOk (trivial)
theorem gq191.fok : FOk Tryz.prog 191 gq191.fi :=
 fokS (E := gq191.E) (wy := ⟨[[none]], [[none, none], []], []⟩) (h := (fun gs => .a)) (G := fun t g => gq191.F (fun y0 y1 y2 => g (y0, y1, y2)) t.1.1 t.1.2.1 t.2.1) (by kernel_rfl) gq191.hE Tryz.func191 (by kernel_rfl) rfl (Nat.le_refl _) (fun t => HintOk.n1 (by kernel_rfl) (gq191.hok gq191.hE)) (fun t g => gq191.F_nat g (fun y0 y1 y2 => some (y0, y1, y2)) _ _ _) (fun t => by kernel_rfl)
def gq182.F {R : Type} (kk : Int → ByteArray → Bool → Option R) (r_s : ByteArray) (r_bad : Bool) (many : Int) : Option R :=
 (gq191 r_s r_bad many).bind fun r =>
 (gq103 r.1).bind fun r1 =>
 kk r1 r.2.1 r.2.2
theorem gq182.F_nat {R S : Type} (g : R → Option S) (kk : Int → ByteArray → Bool → Option R) (r_s r_bad many) : gq182.F (fun y0 y1 y2 => (kk y0 y1 y2).bind g) r_s r_bad many = (gq182.F kk r_s r_bad many).bind g := by
 simp only [gq182.F, grd_bind, cnd_bind, bnd_bind, non_bind]
def gq182 (r_s : ByteArray) (r_bad : Bool) (many : Int) : Option (Int × ByteArray × Bool) := gq182.F (fun y0 y1 y2 => some (y0, y1, y2)) r_s r_bad many
def gq182.out : (Int × ByteArray × Bool) → CRes := fun a => ⟨encL SV.enc [.one (.int .i64)] (a.1, ()), [encL SC.enc [.str, .bool] (a.2.1, a.2.2, ()), encL SC.enc [] ()]⟩
def gq182.ps : List PS := [.ptr [none, none], .val [none]]
def gq182.sA : List SA := [.ptr [.str, .bool], .v (.one (.int .i64))]
def gq182.fi : FI := FIs gq182.sA (Int × ByteArray × Bool) (fun t => gq182 t.1.1 t.1.2.1 t.2.1) gq182.out gq182.ps
def gq182.E : Env := ⟨tt, lkF [(103, gq103.fi), (191, gq191.fi)], 9, 1, [], []⟩
theorem gq182.hok (hE : EOk Tryz.prog (gq182.E)) : HintOk Tryz.prog gq182.E (bodyOf Tryz.f182) (.a) := HintOk.n1 (Q := True) (by kernel_rfl) trivial
theorem gq182.hE : EOk Tryz.prog (gq182.E) := EOk.of ttOk (⟨gq103.fok, ⟨gq191.fok, trivial⟩⟩)
theorem gq182.fok : FOk Tryz.prog 182 gq182.fi :=
 fokS (E := gq182.E) (wy := ⟨[[none]], [[none, none], []], []⟩) (h := (fun gs => .a)) (G := fun t g => gq182.F (fun y0 y1 y2 => g (y0, y1, y2)) t.1.1 t.1.2.1 t.2.1) (by kernel_rfl) gq182.hE Tryz.func182 (by kernel_rfl) rfl (Nat.le_refl _) (fun t => HintOk.n1 (by kernel_rfl) (gq182.hok gq182.hE)) (fun t g => gq182.F_nat g (fun y0 y1 y2 => some (y0, y1, y2)) _ _ _) (fun t => by kernel_rfl)
def gq183.F {R : Type} (kk : ByteArray → ByteArray → Bool → Option R) (r_s : ByteArray) (r_bad : Bool) : Option R :=
 (gq182 r_s r_bad (1 : Int)).bind fun r =>
 (gq191 r.2.1 r.2.2 r.1).bind fun r1 =>
 kk r1.1 r1.2.1 r1.2.2
theorem gq183.F_nat {R S : Type} (g : R → Option S) (kk : ByteArray → ByteArray → Bool → Option R) (r_s r_bad) : gq183.F (fun y0 y1 y2 => (kk y0 y1 y2).bind g) r_s r_bad = (gq183.F kk r_s r_bad).bind g := by
 simp only [gq183.F, grd_bind, cnd_bind, bnd_bind, non_bind]
def gq183 (r_s : ByteArray) (r_bad : Bool) : Option (ByteArray × ByteArray × Bool) := gq183.F (fun y0 y1 y2 => some (y0, y1, y2)) r_s r_bad
def gq183.out : (ByteArray × ByteArray × Bool) → CRes := fun a => ⟨encL SV.enc [.one (.str)] (a.1, ()), [encL SC.enc [.str, .bool] (a.2.1, a.2.2, ())]⟩
def gq183.ps : List PS := [.ptr [none, none]]
def gq183.sA : List SA := [.ptr [.str, .bool]]
def gq183.fi : FI := FIs gq183.sA (ByteArray × ByteArray × Bool) (fun t => gq183 t.1.1 t.1.2.1) gq183.out gq183.ps
def gq183.E : Env := ⟨tt, lkF [(182, gq182.fi), (191, gq191.fi)], 7, 1, [], []⟩
theorem gq183.hok (hE : EOk Tryz.prog (gq183.E)) : HintOk Tryz.prog gq183.E (bodyOf Tryz.f183) (.a) := HintOk.n1 (Q := True) (by kernel_rfl) trivial
theorem gq183.hE : EOk Tryz.prog (gq183.E) := EOk.of ttOk (⟨gq182.fok, ⟨gq191.fok, trivial⟩⟩)
theorem gq183.fok : FOk Tryz.prog 183 gq183.fi :=
 fokS (E := gq183.E) (wy := ⟨[[none]], [[none, none]], []⟩) (h := (fun gs => .a)) (G := fun t g => gq183.F (fun y0 y1 y2 => g (y0, y1, y2)) t.1.1 t.1.2.1) (by kernel_rfl) gq183.hE Tryz.func183 (by kernel_rfl) rfl (Nat.le_refl _) (fun t => HintOk.n1 (by kernel_rfl) (gq183.hok gq183.hE)) (fun t g => gq183.F_nat g (fun y0 y1 y2 => some (y0, y1, y2)) _ _) (fun t => by kernel_rfl)
def gq164.F {R : Type} (kk : Int → Int → ByteArray → Bool → Option R) (s : ByteArray) : Option R :=
 (gq182 s false (4 : Int)).bind fun r =>
 (gq182 r.2.1 r.2.2 (1 : Int)).bind fun r1 =>
 (gq183 r1.2.1 r1.2.2).bind fun r2 =>
 cond (!r2.2.2) (
  cond (sEq r2.2.1 ByteArray.empty) (
   (gq146 r.1 r1.1 r2.1).bind fun r3 =>
   kk r.1 r1.1 r2.1 r3) (kk r.1 r1.1 r2.1 false)) (kk r.1 r1.1 r2.1 false)
theorem gq164.F_nat {R S : Type} (g : R → Option S) (kk : Int → Int → ByteArray → Bool → Option R) (s) : gq164.F (fun y0 y1 y2 y3 => (kk y0 y1 y2 y3).bind g) s = (gq164.F kk s).bind g := by
 simp only [gq164.F, grd_bind, cnd_bind, bnd_bind, non_bind]
def gq164 (s : ByteArray) : Option (Int × Int × ByteArray × Bool) := gq164.F (fun y0 y1 y2 y3 => some (y0, y1, y2, y3)) s
def gq164.out : (Int × Int × ByteArray × Bool) → CRes := fun a => ⟨encL SV.enc [.agg [.int .i64, .int .i64, .str], .one (.bool)] ((a.1, a.2.1, a.2.2.1, ()), a.2.2.2, ()), [encL SC.enc [] ()]⟩
def gq164.ps : List PS := [.val [none]]
def gq164.sA : List SA := [.v (.one (.str))]
def gq164.fi : FI := FIs gq164.sA (Int × Int × ByteArray × Bool) (fun t => gq164 t.1) gq164.out gq164.ps
def gq164.E : Env := ⟨tt, lkF [(146, gq146.fi), (182, gq182.fi), (183, gq183.fi)], 36, 0, [], []⟩
theorem gq164.hok (hE : EOk Tryz.prog (gq164.E)) : HintOk Tryz.prog gq164.E (bodyOf Tryz.f164) (.a) := HintOk.n1 (Q := True) (by kernel_rfl) trivial
theorem gq164.hE : EOk Tryz.prog (gq164.E) := EOk.of ttOk (⟨gq146.fok, ⟨gq182.fok, ⟨gq183.fok, trivial⟩⟩⟩)
theorem gq164.fok : FOk Tryz.prog 164 gq164.fi :=
 fokS (E := gq164.E) (wy := ⟨[[none, none, none], [none]], [[]], []⟩) (h := (fun gs => .a)) (G := fun t g => gq164.F (fun y0 y1 y2 y3 => g (y0, y1, y2, y3)) t.1) (by kernel_rfl) gq164.hE Tryz.func164 (by kernel_rfl) rfl (Nat.le_refl _) (fun t => HintOk.n1 (by kernel_rfl) (gq164.hok gq164.hE)) (fun t g => gq164.F_nat g (fun y0 y1 y2 y3 => some (y0, y1, y2, y3)) _) (fun t => by kernel_rfl)
def gq143.F {R : Type} (kk : Bool → Int → Int → List (El kkb53) → Option R) (s_Term : Int) (s_Vote : Int) (s_Log : List (El kkb53)) (record : ByteArray) : Option R :=
 cond (sEq record ByteArray.empty) (kk false s_Term s_Vote s_Log) (
  grd (gSl (1 : Int) (ByteArray.size record : Int) (ByteArray.size record)) <|
  grd (gIx (0 : Int) (ByteArray.size record)) <|
  cond ((byteAt record (0 : Int)) == (84 : Int)) (
   cond ((ByteArray.size (cut record (1 : Int) (ByteArray.size record : Int)) : Int) != (5 : Int)) (kk false s_Term s_Vote s_Log) (
    grd (gSl (0 : Int) (4 : Int) (ByteArray.size (cut record (1 : Int) (ByteArray.size record : Int)))) <|
    (gq103 (cut (cut record (1 : Int) (ByteArray.size record : Int)) (0 : Int) (4 : Int))).bind fun r =>
    grd (gSl (4 : Int) (ByteArray.size (cut record (1 : Int) (ByteArray.size record : Int)) : Int) (ByteArray.size (cut record (1 : Int) (ByteArray.size record : Int)))) <|
    (gq103 (cut (cut record (1 : Int) (ByteArray.size record : Int)) (4 : Int) (ByteArray.size (cut record (1 : Int) (ByteArray.size record : Int)) : Int))).bind fun r1 =>
    kk true r (IntKind.wrap .i64 (r1 - (1 : Int))) s_Log)) (
   cond ((byteAt record (0 : Int)) == (67 : Int)) (
    (gq103 (cut record (1 : Int) (ByteArray.size record : Int))).bind fun r2 =>
    cond ((ByteArray.size (cut record (1 : Int) (ByteArray.size record : Int)) : Int) != (4 : Int)) (kk false s_Term s_Vote s_Log) (
     cond (decide (r2 > (List.length s_Log : Int))) (kk false s_Term s_Vote s_Log) (
      grd (gSl (0 : Int) r2 (List.length s_Log)) <|
      kk true s_Term s_Vote (sub s_Log (0 : Int) r2)))) (
    cond ((byteAt record (0 : Int)) == (69 : Int)) (
     (gq164 (cut record (1 : Int) (ByteArray.size record : Int))).bind fun r3 =>
     grd (gRm (((List.length s_Log) + (List.length [(r3.1, (r3.2.1, r3.2.2.1))])) * 32)) <|
     cond (r3.2.2.2) (
      kk (decide ((List.length (s_Log ++ [(r3.1, (r3.2.1, r3.2.2.1))]) : Int) ≤ (60 : Int))) s_Term s_Vote (s_Log ++ [(r3.1, (r3.2.1, r3.2.2.1))])) (kk false s_Term s_Vote (s_Log ++ [(r3.1, (r3.2.1, r3.2.2.1))]))) (kk false s_Term s_Vote s_Log))))
theorem gq143.F_nat {R S : Type} (g : R → Option S) (kk : Bool → Int → Int → List (El kkb53) → Option R) (s_Term s_Vote s_Log record) : gq143.F (fun y0 y1 y2 y3 => (kk y0 y1 y2 y3).bind g) s_Term s_Vote s_Log record = (gq143.F kk s_Term s_Vote s_Log record).bind g := by
 simp only [gq143.F, grd_bind, cnd_bind, bnd_bind, non_bind]
def gq143 (s_Term : Int) (s_Vote : Int) (s_Log : List (El kkb53)) (record : ByteArray) : Option (Bool × Int × Int × List (El kkb53)) := gq143.F (fun y0 y1 y2 y3 => some (y0, y1, y2, y3)) s_Term s_Vote s_Log record
def gq143.out : (Bool × Int × Int × List (El kkb53)) → CRes := fun a => ⟨encL SV.enc [.one (.bool)] (a.1, ()), [encL SC.enc [.int .i64, .int .i64, .own [] kkb53 true] (a.2.1, a.2.2.1, a.2.2.2, ()), encL SC.enc [] ()]⟩
def gq143.ps : List PS := [.ptr [none, none, some (kkb53, true)], .val [none]]
def gq143.sA : List SA := [.ptr [.int .i64, .int .i64, .own [] kkb53 true], .v (.one (.str))]
def gq143.fi : FI := FIs gq143.sA (Bool × Int × Int × List (El kkb53)) (fun t => gq143 t.1.1 t.1.2.1 t.1.2.2.1 t.2.1) gq143.out gq143.ps
def gq143.E : Env := ⟨tt, lkF [(103, gq103.fi), (164, gq164.fi)], 84, 1, [], [55]⟩
theorem gq143.hok (hE : EOk Tryz.prog (gq143.E)) : HintOk Tryz.prog gq143.E (bodyOf Tryz.f143) (.a) := HintOk.n1 (Q := True) (by kernel_rfl) trivial
theorem gq143.hE : EOk Tryz.prog (gq143.E) := EOk.of ttOk (⟨gq103.fok, ⟨gq164.fok, trivial⟩⟩)
theorem gq143.fok : FOk Tryz.prog 143 gq143.fi :=
 fokS (E := gq143.E) (wy := ⟨[[none]], [[none, none, some (kkb53, true)], []], []⟩) (h := (fun gs => .a)) (G := fun t g => gq143.F (fun y0 y1 y2 y3 => g (y0, y1, y2, y3)) t.1.1 t.1.2.1 t.1.2.2.1 t.2.1) (by kernel_rfl) gq143.hE Tryz.func143 (by kernel_rfl) rfl (Nat.le_refl _) (fun t => HintOk.n1 (by kernel_rfl) (gq143.hok gq143.hE)) (fun t g => gq143.F_nat g (fun y0 y1 y2 y3 => some (y0, y1, y2, y3)) _ _ _ _) (fun t => by kernel_rfl)
def gq144.F {R : Type} (kk : List (El kkb53) → Option R) (s : List (El kkb53)) : Option R :=
 cond (List.isEmpty s) (
  agree (kk []) (
   grd (gRm (((List.length ([] : List (El kkb53))) + (List.length s)) * 32)) <|
   kk (([] : List (El kkb53)) ++ s))) (
  grd (gRm (((List.length ([] : List (El kkb53))) + (List.length s)) * 32)) <|
  kk (([] : List (El kkb53)) ++ s))
theorem gq144.F_nat {R S : Type} (g : R → Option S) (kk : List (El kkb53) → Option R) (s) : gq144.F (fun y0 => (kk y0).bind g) s = (gq144.F kk s).bind g := by
 cases s with
 | nil =>
  have e : ∀ {R : Type} (k : List (El kkb53) → Option R), gq144.F k [] = agree (k []) (k []) := fun k => by kernel_rfl
  rw [e, e, agree_self, agree_self]
 | cons x l => simp only [gq144.F, List.isEmpty_cons, cond_false, grd_bind]
def gq144 (s : List (El kkb53)) : Option (List (El kkb53)) := gq144.F (fun y0 => some y0) s
def gq144.out : (List (El kkb53)) → CRes := fun a => ⟨encL SV.enc [.one (.own [] kkb53 true)] (a, ()), [encL SC.enc [] ()]⟩
def gq144.ps : List PS := [.val [some (kkb53, false)]]
def gq144.sA : List SA := [.v (.one (.slv [] kkb53))]
def gq144.fi : FI := FIs gq144.sA (List (El kkb53)) (fun t => gq144 t.1) gq144.out gq144.ps
def gq144.E : Env := ⟨tt, lkF [], 8, 0, [], []⟩
theorem gq144.hok (hE : EOk Tryz.prog (gq144.E)) : HintOk Tryz.prog gq144.E (bodyOf Tryz.f144) (.a) := HintOk.n1 (Q := True) (by kernel_rfl) trivial
theorem gq144.hE : EOk Tryz.prog (gq144.E) := EOk.of ttOk (trivial)
theorem gq144.fok : FOk Tryz.prog 144 gq144.fi :=
 fokS (E := gq144.E) (wy := ⟨[[some (kkb53, true)]], [[]], []⟩) (h := (fun gs => .a)) (G := fun t g => gq144.F (fun y0 => g y0) t.1) (by kernel_rfl) gq144.hE Tryz.func144 (by kernel_rfl) rfl (Nat.le_refl _) (fun t => HintOk.n1 (by kernel_rfl) (gq144.hok gq144.hE)) (fun t g => gq144.F_nat g (fun y0 => some y0) _) (fun t => by kernel_rfl)
def gq87.l1 {R : Type} (kke0 : Int → Int → Int → Int → List (El kkb53) → Option R) (kkr : Int → Int → Int → Option R) : Nat → List ByteArray → Int → Int → Int → Int → Int → Int → List (El kkb53) → Option R
 | 0, _, _, _, _, _, _, _, _ => none
 | n + 1, l, i, i1, i2, i3, s, s1, l1 =>
  cond (decide (i1 < i)) (
   grd (gIx i1 (List.length l)) <|
   (gq143 s s1 l1 (rdE (.str : Kd) l (Int.toNat i1))).bind fun r =>
   cond (!r.1) (kkr (3 : Int) (0 : Int) (0 : Int)) (
    gq87.l1 kke0 kkr n l i (IntKind.wrap .i64 (i1 + (1 : Int))) i2 i3 r.2.1 r.2.2.1 r.2.2.2)) (kke0 i2 i3 s s1 l1)
theorem gq87.l1_nat {R S : Type} (g : R → Option S) (kke0 : Int → Int → Int → Int → List (El kkb53) → Option R) (kkr : Int → Int → Int → Option R) : ∀ n l i i1 i2 i3 s s1 l1, gq87.l1 (fun y0 y1 y2 y3 y4 => (kke0 y0 y1 y2 y3 y4).bind g) (fun y0 y1 y2 => (kkr y0 y1 y2).bind g) n l i i1 i2 i3 s s1 l1 = (gq87.l1 kke0 kkr n l i i1 i2 i3 s s1 l1).bind g := by
 intro n
 induction n with
 | zero => intros; rfl
 | succ n ih => intros; simp only [gq87.l1, grd_bind, cnd_bind, bnd_bind, non_bind, ih]
def gq87.F {R : Type} (kk : Int → Int → List (El kkb53) → Int → Option R) (list : List ByteArray) : Option R :=
 (gq117 list (fun t => (gq142 t.1).bind fun a => some (a, ()))).bind fun r =>
 cond (r) (kk (0 : Int) (0 : Int) [] (4 : Int)) (
  gq87.l1 (fun i i1 s s1 l =>
   (gq47 s s1 l).bind fun r1 =>
   cond (!r1) (kk (0 : Int) (0 : Int) [] (3 : Int)) (
    (gq144 l).bind fun r2 =>
    kk s s1 r2 (0 : Int))) (fun i2 i3 i4 => kk i3 i4 [] i2) fuel list (List.length list : Int) (0 : Int) (0 : Int) (0 : Int) (0 : Int) (-1 : Int) [])
theorem gq87.F_nat {R S : Type} (g : R → Option S) (kk : Int → Int → List (El kkb53) → Int → Option R) (list) : gq87.F (fun y0 y1 y2 y3 => (kk y0 y1 y2 y3).bind g) list = (gq87.F kk list).bind g := by
 simp only [gq87.F, grd_bind, cnd_bind, bnd_bind, non_bind, ← gq87.l1_nat]
def gq87 (list : List ByteArray) : Option (Int × Int × List (El kkb53) × Int) := gq87.F (fun y0 y1 y2 y3 => some (y0, y1, y2, y3)) list
def gq87.out : (Int × Int × List (El kkb53) × Int) → CRes := fun a => ⟨encL SV.enc [.agg [.int .i64, .int .i64, .own [] kkb53 true], .one (.int .i64)] ((a.1, a.2.1, a.2.2.1, ()), a.2.2.2, ()), [encL SC.enc [] ()]⟩
def gq87.ps : List PS := [.val [some (.str, false)]]
def gq87.sA : List SA := [.v (.one (.slv [] .str))]
def gq87.fi : FI := FIs gq87.sA (Int × Int × List (El kkb53) × Int) (fun t => gq87 t.1) gq87.out gq87.ps
def gq87.E : Env := ⟨tt, lkF [(47, gq47.fi), (117, gq117.fi), (142, gq142.fi), (143, gq143.fi), (144, gq144.fi)], 34, 0, [], []⟩
def gq87.sh1 : SK := ⟨[.v (.one (.bptr 0 0)), .v (.one (.bptr 1 0)), .v (.one (.slv [1] .str)), .v (.one (.int .i64)), .v (.one (.int .i64))], [.box [.int .i64, .int .i64, .nil], .box [.int .i64, .int .i64, .slo 2], .arr kkb53 [] true]⟩
def gq87.sh1e0 : SK := ⟨[.v (.one (.bptr 0 0)), .v (.one (.bptr 1 0))], [.box [.int .i64, .int .i64, .nil], .box [.int .i64, .int .i64, .slo 2], .arr kkb53 [] true]⟩
def gq87.sh1r : SK := ⟨[.v (.one (.bptr 0 0)), .v (.one (.int .i64))], [.box [.int .i64, .int .i64, .nil]]⟩
def gq87.ko1 : Ex → List CastAt × List Nat
 | .nrm => ([], [])
 | .ret => ([], [2, 3])
 | .ext i => cond (Nat.beq i 0) ([], [2, 4]) ([], [])
def gq87.G1 (n : Nat) (R : Type) (t : gq87.sh1.T) (K : Ex → Kp → Option R) : Option R := gq87.l1 (fun y0 y1 y2 y3 y4 => K (.ext 0) (SK.enc gq87.sh1e0 (((), (), ()), ((y0, y1, (), ()), (y2, y3, (), ()), y4, ())))) (fun y0 y1 y2 => K .ret (SK.enc gq87.sh1r (((), y0, ()), ((y1, y2, (), ()), ())))) n t.1.2.2.1 t.1.2.2.2.1 t.1.2.2.2.2.1 t.2.1.1 t.2.1.2.1 t.2.2.1.1 t.2.2.1.2.1 t.2.2.2.1
def gq87.S1 : Sum := ⟨([⟨4, true, 2, .own kkb53⟩], [2, 4, 11, 12, 13]), sumF gq87.sh1 (gq87.G1 fuel), gq87.ko1⟩
theorem gq87.ok1 (hE : EOk Tryz.prog (gq87.E)) : SumOk Tryz.prog gq87.E (cB (cR (cL (cR (cR (cR (bodyOf Tryz.f87))))))) (gq87.S1) := by
 have hh : HintOk Tryz.prog gq87.E (cB (cB (cR (cL (cR (cR (cR (bodyOf Tryz.f87)))))))) (.a) := HintOk.n1 (Q := True) (by kernel_rfl) trivial
 have h := loopS (kin := ([⟨4, true, 2, .own kkb53⟩], [2, 4, 11, 12, 13])) (kout := gq87.ko1) (sh := gq87.sh1) (F := gq87.G1) (ops_ok (hE.gv _)) (by kernel_rfl) hh (fun _ _ _ => rfl) (fun n R t K => by kernel_rfl) fuel
 exact HintOk.n1 (c := (cB (cR (cL (cR (cR (cR (bodyOf Tryz.f87)))))))) (h := .s (gq87.S1)) (P := Tryz.prog) (E := gq87.E) (by kernel_rfl) h
theorem gq87.hok (hE : EOk Tryz.prog (gq87.E)) : HintOk Tryz.prog gq87.E (bodyOf Tryz.f87) (.n (.a) (.n (.a) (.n (.a) (.n (.n (.a) (.b (.s (gq87.S1)))) (.a))))) := HintOk.n1 (Q := (True) ∧ ((True) ∧ ((True) ∧ (((True) ∧ (SumOk Tryz.prog gq87.E (cB (cR (cL (cR (cR (cR (bodyOf Tryz.f87))))))) (gq87.S1))) ∧ (True))))) (by kernel_rfl) ⟨trivial, ⟨trivial, ⟨trivial, ⟨⟨trivial, (gq87.ok1 hE)⟩, trivial⟩⟩⟩⟩
theorem gq87.hE : EOk Tryz.prog (gq87.E) := EOk.of ttOk (⟨gq47.fok, ⟨gq117.fok, ⟨gq142.fok, ⟨gq143.fok, ⟨gq144.fok, trivial⟩⟩⟩⟩⟩)
theorem gq87.fok : FOk Tryz.prog 87 gq87.fi :=
 fokS (E := gq87.E) (wy := ⟨[[none, none, some (kkb53, true)], [none]], [[]], []⟩) (h := (fun gs => .n (.a) (.n (.a) (.n (.a) (.n (.n (.a) (.b (.s (gq87.S1)))) (.a)))))) (G := fun t g => gq87.F (fun y0 y1 y2 y3 => g (y0, y1, y2, y3)) t.1) (by kernel_rfl) gq87.hE Tryz.func87 (by kernel_rfl) rfl (Nat.le_refl _) (fun t => HintOk.n1 (by kernel_rfl) (gq87.hok gq87.hE)) (fun t g => gq87.F_nat g (fun y0 y1 y2 y3 => some (y0, y1, y2, y3)) _) (fun t => by kernel_rfl)
def gq41.F {R : Type} (kk : Int → Int → List (El kkb53) → Int → Option R) (d_Room : Int) (d_Files : List (El kFile)) : Option R :=
 (gq21 d_Room d_Files).bind fun r =>
 cond (r.2.2.2.2 != (0 : Int)) (kk (0 : Int) (0 : Int) [] r.2.2.2.2) (
  (gq87 r.2.1).bind fun r1 =>
  cond (r1.2.2.2 != (0 : Int)) (kk (0 : Int) (0 : Int) [] (3 : Int)) (kk r1.1 r1.2.1 r1.2.2.1 (0 : Int)))
theorem gq41.F_nat {R S : Type} (g : R → Option S) (kk : Int → Int → List (El kkb53) → Int → Option R) (d_Room d_Files) : gq41.F (fun y0 y1 y2 y3 => (kk y0 y1 y2 y3).bind g) d_Room d_Files = (gq41.F kk d_Room d_Files).bind g := by
 simp only [gq41.F, grd_bind, cnd_bind, bnd_bind, non_bind]
def gq41 (d_Room : Int) (d_Files : List (El kFile)) : Option (Int × Int × List (El kkb53) × Int) := gq41.F (fun y0 y1 y2 y3 => some (y0, y1, y2, y3)) d_Room d_Files
def gq41.out : (Int × Int × List (El kkb53) × Int) → CRes := fun a => ⟨encL SV.enc [.agg [.int .i64, .int .i64, .own [] kkb53 true], .one (.int .i64)] ((a.1, a.2.1, a.2.2.1, ()), a.2.2.2, ()), [encL SC.enc [] ()]⟩
def gq41.ps : List PS := [.val [none, some (kFile, false)]]
def gq41.sA : List SA := [.v (.agg [.int .i64, .slv [] kFile])]
def gq41.fi : FI := FIs gq41.sA (Int × Int × List (El kkb53) × Int) (fun t => gq41 t.1.1 t.1.2.1) gq41.out gq41.ps
def gq41.E : Env := ⟨tt, lkF [(21, gq21.fi), (87, gq87.fi)], 26, 0, [], []⟩
theorem gq41.hok (hE : EOk Tryz.prog (gq41.E)) : HintOk Tryz.prog gq41.E (bodyOf Tryz.f41) (.a) := HintOk.n1 (Q := True) (by kernel_rfl) trivial
theorem gq41.hE : EOk Tryz.prog (gq41.E) := EOk.of ttOk (⟨gq21.fok, ⟨gq87.fok, trivial⟩⟩)
theorem gq41.fok : FOk Tryz.prog 41 gq41.fi :=
 fokS (E := gq41.E) (wy := ⟨[[none, none, some (kkb53, true)], [none]], [[]], []⟩) (h := (fun gs => .a)) (G := fun t g => gq41.F (fun y0 y1 y2 y3 => g (y0, y1, y2, y3)) t.1.1 t.1.2.1) (by kernel_rfl) gq41.hE Tryz.func41 (by kernel_rfl) rfl (Nat.le_refl _) (fun t => HintOk.n1 (by kernel_rfl) (gq41.hok gq41.hE)) (fun t g => gq41.F_nat g (fun y0 y1 y2 y3 => some (y0, y1, y2, y3)) _ _) (fun t => by kernel_rfl)
def gq89.l1 {R : Type} (kke0 : Option R) (kkr : Bool → Option R) : Nat → List (El kkb53) → List (El kkb53) → Int → Option R
 | 0, _, _, _ => none
 | n + 1, a, b, i =>
  cond (decide (i < (List.length a : Int))) (
   grd (gIx i (List.length a)) <|
   grd (gIx i (List.length b)) <|
   cond (!(((rdE kkb53 a (Int.toNat i)).1 == (rdE kkb53 b (Int.toNat i)).1) && (((rdE kkb53 a (Int.toNat i)).2.1 == (rdE kkb53 b (Int.toNat i)).2.1) && (sEq (rdE kkb53 a (Int.toNat i)).2.2 (rdE kkb53 b (Int.toNat i)).2.2)))) (kkr false) (gq89.l1 kke0 kkr n a b (IntKind.wrap .i64 (i + (1 : Int))))) (kke0)
theorem gq89.l1_nat {R S : Type} (g : R → Option S) (kke0 : Option R) (kkr : Bool → Option R) : ∀ n a b i, gq89.l1 (kke0.bind g) (fun y0 => (kkr y0).bind g) n a b i = (gq89.l1 kke0 kkr n a b i).bind g := by
 intro n
 induction n with
 | zero => intros; rfl
 | succ n ih => intros; simp only [gq89.l1, grd_bind, cnd_bind, bnd_bind, non_bind, ih]
def gq89.F {R : Type} (kk : Bool → Option R) (a : List (El kkb53)) (b : List (El kkb53)) : Option R :=
 cond ((List.length a : Int) != (List.length b : Int)) (kk false) (gq89.l1 (kk true) (fun b1 => kk b1) fuel a b (0 : Int))
theorem gq89.F_nat {R S : Type} (g : R → Option S) (kk : Bool → Option R) (a b) : gq89.F (fun y0 => (kk y0).bind g) a b = (gq89.F kk a b).bind g := by
 simp only [gq89.F, grd_bind, cnd_bind, bnd_bind, non_bind, ← gq89.l1_nat]
def gq89 (a : List (El kkb53)) (b : List (El kkb53)) : Option Bool := gq89.F (fun y0 => some y0) a b
def gq89.out : Bool → CRes := fun a => ⟨encL SV.enc [.one (.bool)] (a, ()), [encL SC.enc [] (), encL SC.enc [] ()]⟩
def gq89.ps : List PS := [.val [some (kkb53, false)], .val [some (kkb53, false)]]
def gq89.sA : List SA := [.v (.one (.slv [] kkb53)), .v (.one (.slv [] kkb53))]
def gq89.fi : FI := FIs gq89.sA (Bool) (fun t => gq89 t.1 t.2.1) gq89.out gq89.ps
def gq89.E : Env := ⟨tt, lkF [], 26, 0, [], []⟩
def gq89.sh1 : SK := ⟨[.v (.one (.slv [1] kkb53)), .v (.one (.slv [2] kkb53)), .v (.one (.int .i64))], []⟩
def gq89.sh1e0 : SK := ⟨[], []⟩
def gq89.sh1r : SK := ⟨[.v (.one (.bool))], []⟩
def gq89.ko1 : Ex → List CastAt × List Nat
 | .nrm => ([], [])
 | .ret => ([], [4])
 | .ext i => cond (Nat.beq i 0) ([], []) ([], [])
def gq89.G1 (n : Nat) (R : Type) (t : gq89.sh1.T) (K : Ex → Kp → Option R) : Option R := gq89.l1 (K (.ext 0) (SK.enc gq89.sh1e0 ((), ()))) (fun y0 => K .ret (SK.enc gq89.sh1r ((y0, ()), ()))) n t.1.1 t.1.2.1 t.1.2.2.1
def gq89.S1 : Sum := ⟨([], [0, 1, 5]), sumF gq89.sh1 (gq89.G1 fuel), gq89.ko1⟩
theorem gq89.ok1 (hE : EOk Tryz.prog (gq89.E)) : SumOk Tryz.prog gq89.E (cB (cR (cL (cR (cR (bodyOf Tryz.f89)))))) (gq89.S1) := by
 have hh : HintOk Tryz.prog gq89.E (cB (cB (cR (cL (cR (cR (bodyOf Tryz.f89))))))) (.a) := HintOk.n1 (Q := True) (by kernel_rfl) trivial
 have h := loopS (kin := ([], [0, 1, 5])) (kout := gq89.ko1) (sh := gq89.sh1) (F := gq89.G1) (ops_ok (hE.gv _)) (by kernel_rfl) hh (fun _ _ _ => rfl) (fun n R t K => by kernel_rfl) fuel
 exact HintOk.n1 (c := (cB (cR (cL (cR (cR (bodyOf Tryz.f89))))))) (h := .s (gq89.S1)) (P := Tryz.prog) (E := gq89.E) (by kernel_rfl) h
theorem gq89.hok (hE : EOk Tryz.prog (gq89.E)) : HintOk Tryz.prog gq89.E (bodyOf Tryz.f89) (.n (.a) (.n (.a) (.n (.n (.a) (.b (.s (gq89.S1)))) (.a)))) := HintOk.n1 (Q := (True) ∧ ((True) ∧ (((True) ∧ (SumOk Tryz.prog gq89.E (cB (cR (cL (cR (cR (bodyOf Tryz.f89)))))) (gq89.S1))) ∧ (True)))) (by kernel_rfl) ⟨trivial, ⟨trivial, ⟨⟨trivial, (gq89.ok1 hE)⟩, trivial⟩⟩⟩
theorem gq89.hE : EOk Tryz.prog (gq89.E) := EOk.of ttOk (trivial)
theorem gq89.fok : FOk Tryz.prog 89 gq89.fi :=
 fokS (E := gq89.E) (wy := ⟨[[none]], [[], []], []⟩) (h := (fun gs => .n (.a) (.n (.a) (.n (.n (.a) (.b (.s (gq89.S1)))) (.a))))) (G := fun t g => gq89.F (fun y0 => g y0) t.1 t.2.1) (by kernel_rfl) gq89.hE Tryz.func89 (by kernel_rfl) rfl (Nat.le_refl _) (fun t => HintOk.n1 (by kernel_rfl) (gq89.hok gq89.hE)) (fun t g => gq89.F_nat g (fun y0 => some y0) _ _) (fun t => by kernel_rfl)
def gq43.F {R : Type} (kk : Bool → Option R) (a_Term : Int) (a_Vote : Int) (a_Log : List (El kkb53)) (b_Term : Int) (b_Vote : Int) (b_Log : List (El kkb53)) : Option R :=
 cond (a_Term == b_Term) (
  cond (a_Vote == b_Vote) (
   (gq89 a_Log b_Log).bind fun r =>
   kk r) (kk false)) (kk false)
theorem gq43.F_nat {R S : Type} (g : R → Option S) (kk : Bool → Option R) (a_Term a_Vote a_Log b_Term b_Vote b_Log) : gq43.F (fun y0 => (kk y0).bind g) a_Term a_Vote a_Log b_Term b_Vote b_Log = (gq43.F kk a_Term a_Vote a_Log b_Term b_Vote b_Log).bind g := by
 simp only [gq43.F, grd_bind, cnd_bind, bnd_bind, non_bind]
def gq43 (a_Term : Int) (a_Vote : Int) (a_Log : List (El kkb53)) (b_Term : Int) (b_Vote : Int) (b_Log : List (El kkb53)) : Option Bool := gq43.F (fun y0 => some y0) a_Term a_Vote a_Log b_Term b_Vote b_Log
def gq43.out : Bool → CRes := fun a => ⟨encL SV.enc [.one (.bool)] (a, ()), [encL SC.enc [] (), encL SC.enc [] ()]⟩
def gq43.ps : List PS := [.val [none, none, some (kkb53, false)], .val [none, none, some (kkb53, false)]]
def gq43.sA : List SA := [.v (.agg [.int .i64, .int .i64, .slv [] kkb53]), .v (.agg [.int .i64, .int .i64, .slv [] kkb53])]
def gq43.fi : FI := FIs gq43.sA (Bool) (fun t => gq43 t.1.1 t.1.2.1 t.1.2.2.1 t.2.1.1 t.2.1.2.1 t.2.1.2.2.1) gq43.out gq43.ps
def gq43.E : Env := ⟨tt, lkF [(89, gq89.fi)], 24, 0, [], []⟩
theorem gq43.hok (hE : EOk Tryz.prog (gq43.E)) : HintOk Tryz.prog gq43.E (bodyOf Tryz.f43) (.a) := HintOk.n1 (Q := True) (by kernel_rfl) trivial
theorem gq43.hE : EOk Tryz.prog (gq43.E) := EOk.of ttOk (⟨gq89.fok, trivial⟩)
theorem gq43.fok : FOk Tryz.prog 43 gq43.fi :=
 fokS (E := gq43.E) (wy := ⟨[[none]], [[], []], []⟩) (h := (fun gs => .a)) (G := fun t g => gq43.F (fun y0 => g y0) t.1.1 t.1.2.1 t.1.2.2.1 t.2.1.1 t.2.1.2.1 t.2.1.2.2.1) (by kernel_rfl) gq43.hE Tryz.func43 (by kernel_rfl) rfl (Nat.le_refl _) (fun t => HintOk.n1 (by kernel_rfl) (gq43.hok gq43.hE)) (fun t g => gq43.F_nat g (fun y0 => some y0) _ _ _ _ _ _) (fun t => by kernel_rfl)
def gq44.F {R : Type} (kk : List ByteArray → Int → Option R) (was_Term : Int) (was_Vote : Int) (was_Log : List (El kkb53)) (now_Term : Int) (now_Vote : Int) (now_Log : List (El kkb53)) : Option R :=
 (gq47 was_Term was_Vote was_Log).bind fun r =>
 cond (!r) (kk [] (1 : Int)) (
  (gq47 now_Term now_Vote now_Log).bind fun r1 =>
  cond (!r1) (kk [] (1 : Int)) (
   (gq83 was_Term was_Vote was_Log now_Term now_Vote now_Log).bind fun r2 =>
   kk r2 (0 : Int)))
theorem gq44.F_nat {R S : Type} (g : R → Option S) (kk : List ByteArray → Int → Option R) (was_Term was_Vote was_Log now_Term now_Vote now_Log) : gq44.F (fun y0 y1 => (kk y0 y1).bind g) was_Term was_Vote was_Log now_Term now_Vote now_Log = (gq44.F kk was_Term was_Vote was_Log now_Term now_Vote now_Log).bind g := by
 simp only [gq44.F, grd_bind, cnd_bind, bnd_bind, non_bind]
def gq44 (was_Term : Int) (was_Vote : Int) (was_Log : List (El kkb53)) (now_Term : Int) (now_Vote : Int) (now_Log : List (El kkb53)) : Option (List ByteArray × Int) := gq44.F (fun y0 y1 => some (y0, y1)) was_Term was_Vote was_Log now_Term now_Vote now_Log
def gq44.out : (List ByteArray × Int) → CRes := fun a => ⟨encL SV.enc [.one (.own [] .str true), .one (.int .i64)] (a.1, a.2, ()), [encL SC.enc [] (), encL SC.enc [] ()]⟩
def gq44.ps : List PS := [.val [none, none, some (kkb53, false)], .val [none, none, some (kkb53, false)]]
def gq44.sA : List SA := [.v (.agg [.int .i64, .int .i64, .slv [] kkb53]), .v (.agg [.int .i64, .int .i64, .slv [] kkb53])]
def gq44.fi : FI := FIs gq44.sA (List ByteArray × Int) (fun t => gq44 t.1.1 t.1.2.1 t.1.2.2.1 t.2.1.1 t.2.1.2.1 t.2.1.2.2.1) gq44.out gq44.ps
def gq44.E : Env := ⟨tt, lkF [(47, gq47.fi), (83, gq83.fi)], 17, 0, [], []⟩
theorem gq44.hok (hE : EOk Tryz.prog (gq44.E)) : HintOk Tryz.prog gq44.E (bodyOf Tryz.f44) (.a) := HintOk.n1 (Q := True) (by kernel_rfl) trivial
theorem gq44.hE : EOk Tryz.prog (gq44.E) := EOk.of ttOk (⟨gq47.fok, ⟨gq83.fok, trivial⟩⟩)
theorem gq44.fok : FOk Tryz.prog 44 gq44.fi :=
 fokS (E := gq44.E) (wy := ⟨[[some (.str, true)], [none]], [[], []], []⟩) (h := (fun gs => .a)) (G := fun t g => gq44.F (fun y0 y1 => g (y0, y1)) t.1.1 t.1.2.1 t.1.2.2.1 t.2.1.1 t.2.1.2.1 t.2.1.2.2.1) (by kernel_rfl) gq44.hE Tryz.func44 (by kernel_rfl) rfl (Nat.le_refl _) (fun t => HintOk.n1 (by kernel_rfl) (gq44.hok gq44.hE)) (fun t g => gq44.F_nat g (fun y0 y1 => some (y0, y1)) _ _ _ _ _ _) (fun t => by kernel_rfl)
def gq90.F {R : Type} (kk : Bool → Option R) (list : List ByteArray) : Option R :=
 kk (decide ((List.length list : Int) ≤ (4096 : Int)))
theorem gq90.F_nat {R S : Type} (g : R → Option S) (kk : Bool → Option R) (list) : gq90.F (fun y0 => (kk y0).bind g) list = (gq90.F kk list).bind g := by
 simp only [gq90.F, grd_bind, cnd_bind, bnd_bind, non_bind]
def gq90 (list : List ByteArray) : Option Bool := gq90.F (fun y0 => some y0) list
def gq90.out : Bool → CRes := fun a => ⟨encL SV.enc [.one (.bool)] (a, ()), [encL SC.enc [] ()]⟩
def gq90.ps : List PS := [.val [some (.str, false)]]
def gq90.sA : List SA := [.v (.one (.slv [] .str))]
def gq90.fi : FI := FIs gq90.sA (Bool) (fun t => gq90 t.1) gq90.out gq90.ps
def gq90.E : Env := ⟨tt, lkF [], 6, 0, [], []⟩
theorem gq90.hok (hE : EOk Tryz.prog (gq90.E)) : HintOk Tryz.prog gq90.E (bodyOf Tryz.f90) (.a) := HintOk.n1 (Q := True) (by kernel_rfl) trivial
theorem gq90.hE : EOk Tryz.prog (gq90.E) := EOk.of ttOk (trivial)
theorem gq90.fok : FOk Tryz.prog 90 gq90.fi :=
 fokS (E := gq90.E) (wy := ⟨[[none]], [[]], []⟩) (h := (fun gs => .a)) (G := fun t g => gq90.F (fun y0 => g y0) t.1) (by kernel_rfl) gq90.hE Tryz.func90 (by kernel_rfl) rfl (Nat.le_refl _) (fun t => HintOk.n1 (by kernel_rfl) (gq90.hok gq90.hE)) (fun t g => gq90.F_nat g (fun y0 => some y0) _) (fun t => by kernel_rfl)
def gq45.F {R : Type} (kk : Int → Int → List (El kkb53) → Int → Option R) (list : List ByteArray) : Option R :=
 (gq90 list).bind fun r =>
 cond (!r) (kk (0 : Int) (0 : Int) [] (2 : Int)) (
  (gq87 list).bind fun r1 =>
  kk r1.1 r1.2.1 r1.2.2.1 r1.2.2.2)
theorem gq45.F_nat {R S : Type} (g : R → Option S) (kk : Int → Int → List (El kkb53) → Int → Option R) (list) : gq45.F (fun y0 y1 y2 y3 => (kk y0 y1 y2 y3).bind g) list = (gq45.F kk list).bind g := by
 simp only [gq45.F, grd_bind, cnd_bind, bnd_bind, non_bind]
def gq45 (list : List ByteArray) : Option (Int × Int × List (El kkb53) × Int) := gq45.F (fun y0 y1 y2 y3 => some (y0, y1, y2, y3)) list
def gq45.out : (Int × Int × List (El kkb53) × Int) → CRes := fun a => ⟨encL SV.enc [.agg [.int .i64, .int .i64, .own [] kkb53 true], .one (.int .i64)] ((a.1, a.2.1, a.2.2.1, ()), a.2.2.2, ()), [encL SC.enc [] ()]⟩
def gq45.ps : List PS := [.val [some (.str, false)]]
def gq45.sA : List SA := [.v (.one (.slv [] .str))]
def gq45.fi : FI := FIs gq45.sA (Int × Int × List (El kkb53) × Int) (fun t => gq45 t.1) gq45.out gq45.ps
def gq45.E : Env := ⟨tt, lkF [(87, gq87.fi), (90, gq90.fi)], 12, 0, [], []⟩
theorem gq45.hok (hE : EOk Tryz.prog (gq45.E)) : HintOk Tryz.prog gq45.E (bodyOf Tryz.f45) (.a) := HintOk.n1 (Q := True) (by kernel_rfl) trivial
theorem gq45.hE : EOk Tryz.prog (gq45.E) := EOk.of ttOk (⟨gq87.fok, ⟨gq90.fok, trivial⟩⟩)
theorem gq45.fok : FOk Tryz.prog 45 gq45.fi :=
 fokS (E := gq45.E) (wy := ⟨[[none, none, some (kkb53, true)], [none]], [[]], []⟩) (h := (fun gs => .a)) (G := fun t g => gq45.F (fun y0 y1 y2 y3 => g (y0, y1, y2, y3)) t.1) (by kernel_rfl) gq45.hE Tryz.func45 (by kernel_rfl) rfl (Nat.le_refl _) (fun t => HintOk.n1 (by kernel_rfl) (gq45.hok gq45.hE)) (fun t g => gq45.F_nat g (fun y0 y1 y2 y3 => some (y0, y1, y2, y3)) _) (fun t => by kernel_rfl)
def gq91.l1 {R : Type} (kke0 : Option R) (kkr : Bool → Option R) : Nat → List (El kkb53) → List (El kkb53) → Int → Int → Option R
 | 0, _, _, _, _ => none
 | n + 1, s1, s2, i, i1 =>
  cond (decide (i1 < i)) (
   grd (gIx i1 (List.length s1)) <|
   grd (gIx i1 (List.length s2)) <|
   cond (!(((rdE kkb53 s1 (Int.toNat i1)).1 == (rdE kkb53 s2 (Int.toNat i1)).1) && (((rdE kkb53 s1 (Int.toNat i1)).2.1 == (rdE kkb53 s2 (Int.toNat i1)).2.1) && (sEq (rdE kkb53 s1 (Int.toNat i1)).2.2 (rdE kkb53 s2 (Int.toNat i1)).2.2)))) (kkr false) (gq91.l1 kke0 kkr n s1 s2 i (IntKind.wrap .i64 (i1 + (1 : Int))))) (kke0)
theorem gq91.l1_nat {R S : Type} (g : R → Option S) (kke0 : Option R) (kkr : Bool → Option R) : ∀ n s1 s2 i i1, gq91.l1 (kke0.bind g) (fun y0 => (kkr y0).bind g) n s1 s2 i i1 = (gq91.l1 kke0 kkr n s1 s2 i i1).bind g := by
 intro n
 induction n with
 | zero => intros; rfl
 | succ n ih => intros; simp only [gq91.l1, grd_bind, cnd_bind, bnd_bind, non_bind, ih]
def gq91.F {R : Type} (kk : Bool → Option R) (s1 : List (El kkb53)) (s2 : List (El kkb53)) : Option R :=
 cond ((List.length s1 : Int) != (List.length s2 : Int)) (kk false) (
  gq91.l1 (kk true) (fun b => kk b) fuel s1 s2 (List.length s1 : Int) (0 : Int))
theorem gq91.F_nat {R S : Type} (g : R → Option S) (kk : Bool → Option R) (s1 s2) : gq91.F (fun y0 => (kk y0).bind g) s1 s2 = (gq91.F kk s1 s2).bind g := by
 simp only [gq91.F, grd_bind, cnd_bind, bnd_bind, non_bind, ← gq91.l1_nat]
def gq91 (s1 : List (El kkb53)) (s2 : List (El kkb53)) : Option Bool := gq91.F (fun y0 => some y0) s1 s2
def gq91.out : Bool → CRes := fun a => ⟨encL SV.enc [.one (.bool)] (a, ()), [encL SC.enc [] (), encL SC.enc [] ()]⟩
def gq91.ps : List PS := [.val [some (kkb53, false)], .val [some (kkb53, false)]]
def gq91.sA : List SA := [.v (.one (.slv [] kkb53)), .v (.one (.slv [] kkb53))]
def gq91.fi : FI := FIs gq91.sA (Bool) (fun t => gq91 t.1 t.2.1) gq91.out gq91.ps
def gq91.E : Env := ⟨tt, lkF [], 26, 0, [], []⟩
def gq91.sh1 : SK := ⟨[.v (.one (.slv [1] kkb53)), .v (.one (.slv [2] kkb53)), .v (.one (.int .i64)), .v (.one (.int .i64))], []⟩
def gq91.sh1e0 : SK := ⟨[], []⟩
def gq91.sh1r : SK := ⟨[.v (.one (.bool))], []⟩
def gq91.ko1 : Ex → List CastAt × List Nat
 | .nrm => ([], [])
 | .ret => ([], [4])
 | .ext i => cond (Nat.beq i 0) ([], []) ([], [])
def gq91.G1 (n : Nat) (R : Type) (t : gq91.sh1.T) (K : Ex → Kp → Option R) : Option R := gq91.l1 (K (.ext 0) (SK.enc gq91.sh1e0 ((), ()))) (fun y0 => K .ret (SK.enc gq91.sh1r ((y0, ()), ()))) n t.1.1 t.1.2.1 t.1.2.2.1 t.1.2.2.2.1
def gq91.S1 : Sum := ⟨([], [0, 1, 12, 13]), sumF gq91.sh1 (gq91.G1 fuel), gq91.ko1⟩
theorem gq91.ok1 (hE : EOk Tryz.prog (gq91.E)) : SumOk Tryz.prog gq91.E (cB (cR (cL (cR (cR (bodyOf Tryz.f91)))))) (gq91.S1) := by
 have hh : HintOk Tryz.prog gq91.E (cB (cB (cR (cL (cR (cR (bodyOf Tryz.f91))))))) (.a) := HintOk.n1 (Q := True) (by kernel_rfl) trivial
 have h := loopS (kin := ([], [0, 1, 12, 13])) (kout := gq91.ko1) (sh := gq91.sh1) (F := gq91.G1) (ops_ok (hE.gv _)) (by kernel_rfl) hh (fun _ _ _ => rfl) (fun n R t K => by kernel_rfl) fuel
 exact HintOk.n1 (c := (cB (cR (cL (cR (cR (bodyOf Tryz.f91))))))) (h := .s (gq91.S1)) (P := Tryz.prog) (E := gq91.E) (by kernel_rfl) h
theorem gq91.hok (hE : EOk Tryz.prog (gq91.E)) : HintOk Tryz.prog gq91.E (bodyOf Tryz.f91) (.n (.a) (.n (.a) (.n (.n (.a) (.b (.s (gq91.S1)))) (.a)))) := HintOk.n1 (Q := (True) ∧ ((True) ∧ (((True) ∧ (SumOk Tryz.prog gq91.E (cB (cR (cL (cR (cR (bodyOf Tryz.f91)))))) (gq91.S1))) ∧ (True)))) (by kernel_rfl) ⟨trivial, ⟨trivial, ⟨⟨trivial, (gq91.ok1 hE)⟩, trivial⟩⟩⟩
theorem gq91.hE : EOk Tryz.prog (gq91.E) := EOk.of ttOk (trivial)
theorem gq91.fok : FOk Tryz.prog 91 gq91.fi :=
 fokS (E := gq91.E) (wy := ⟨[[none]], [[], []], []⟩) (h := (fun gs => .n (.a) (.n (.a) (.n (.n (.a) (.b (.s (gq91.S1)))) (.a))))) (G := fun t g => gq91.F (fun y0 => g y0) t.1 t.2.1) (by kernel_rfl) gq91.hE Tryz.func91 (by kernel_rfl) rfl (Nat.le_refl _) (fun t => HintOk.n1 (by kernel_rfl) (gq91.hok gq91.hE)) (fun t g => gq91.F_nat g (fun y0 => some y0) _ _) (fun t => by kernel_rfl)
def gq46.F {R : Type} (kk : Bool → Int → Option R) (a_Term : Int) (a_Vote : Int) (a_Log : List (El kkb53)) (b_Term : Int) (b_Vote : Int) (b_Log : List (El kkb53)) : Option R :=
 (gq47 a_Term a_Vote a_Log).bind fun r =>
 cond (!r) (kk false (1 : Int)) (
  (gq47 b_Term b_Vote b_Log).bind fun r1 =>
  cond (!r1) (kk false (1 : Int)) (
   cond (a_Term == b_Term) (
    cond (a_Vote == b_Vote) (
     (gq91 a_Log b_Log).bind fun r2 =>
     kk r2 (0 : Int)) (kk false (0 : Int))) (kk false (0 : Int))))
theorem gq46.F_nat {R S : Type} (g : R → Option S) (kk : Bool → Int → Option R) (a_Term a_Vote a_Log b_Term b_Vote b_Log) : gq46.F (fun y0 y1 => (kk y0 y1).bind g) a_Term a_Vote a_Log b_Term b_Vote b_Log = (gq46.F kk a_Term a_Vote a_Log b_Term b_Vote b_Log).bind g := by
 simp only [gq46.F, grd_bind, cnd_bind, bnd_bind, non_bind]
def gq46 (a_Term : Int) (a_Vote : Int) (a_Log : List (El kkb53)) (b_Term : Int) (b_Vote : Int) (b_Log : List (El kkb53)) : Option (Bool × Int) := gq46.F (fun y0 y1 => some (y0, y1)) a_Term a_Vote a_Log b_Term b_Vote b_Log
def gq46.out : (Bool × Int) → CRes := fun a => ⟨encL SV.enc [.one (.bool), .one (.int .i64)] (a.1, a.2, ()), [encL SC.enc [] (), encL SC.enc [] ()]⟩
def gq46.ps : List PS := [.val [none, none, some (kkb53, false)], .val [none, none, some (kkb53, false)]]
def gq46.sA : List SA := [.v (.agg [.int .i64, .int .i64, .slv [] kkb53]), .v (.agg [.int .i64, .int .i64, .slv [] kkb53])]
def gq46.fi : FI := FIs gq46.sA (Bool × Int) (fun t => gq46 t.1.1 t.1.2.1 t.1.2.2.1 t.2.1.1 t.2.1.2.1 t.2.1.2.2.1) gq46.out gq46.ps
def gq46.E : Env := ⟨tt, lkF [(47, gq47.fi), (91, gq91.fi)], 33, 0, [], []⟩
theorem gq46.hok (hE : EOk Tryz.prog (gq46.E)) : HintOk Tryz.prog gq46.E (bodyOf Tryz.f46) (.a) := HintOk.n1 (Q := True) (by kernel_rfl) trivial
theorem gq46.hE : EOk Tryz.prog (gq46.E) := EOk.of ttOk (⟨gq47.fok, ⟨gq91.fok, trivial⟩⟩)
theorem gq46.fok : FOk Tryz.prog 46 gq46.fi :=
 fokS (E := gq46.E) (wy := ⟨[[none], [none]], [[], []], []⟩) (h := (fun gs => .a)) (G := fun t g => gq46.F (fun y0 y1 => g (y0, y1)) t.1.1 t.1.2.1 t.1.2.2.1 t.2.1.1 t.2.1.2.1 t.2.1.2.2.1) (by kernel_rfl) gq46.hE Tryz.func46 (by kernel_rfl) rfl (Nat.le_refl _) (fun t => HintOk.n1 (by kernel_rfl) (gq46.hok gq46.hE)) (fun t g => gq46.F_nat g (fun y0 y1 => some (y0, y1)) _ _ _ _ _ _) (fun t => by kernel_rfl)
def gq9.F {R : Type} (kk : Bool → Option R) (code : List Int) (more : List Int) : Option R :=
 cond (decide ((List.length code : Int) > (1048576 : Int))) (kk true) (
  cond (decide ((List.length more : Int) > (1048576 : Int))) (kk true) (
   (gq39 code (0 : Int) (-1 : Int) []).bind fun r =>
   (gq39 more r.1 r.2.1 r.2.2).bind fun r1 =>
   (gq44 (0 : Int) (-1 : Int) [] r.1 r.2.1 r.2.2).bind fun r2 =>
   (gq44 r.1 r.2.1 r.2.2 r1.1 r1.2.1 r1.2.2).bind fun r3 =>
   (gq40 r.1 r.2.1 r.2.2 r1.1 r1.2.1 r1.2.2).bind fun r4 =>
   grd (gRm (((List.length ([] : List ByteArray)) + (List.length r2.1)) * 16)) <|
   grd (gRm (((List.length (([] : List ByteArray) ++ r2.1)) + (List.length r3.1)) * 16)) <|
   (gq45 ((([] : List ByteArray) ++ r2.1) ++ r3.1)).bind fun r5 =>
   (gq46 r5.1 r5.2.1 r5.2.2.1 r1.1 r1.2.1 r1.2.2).bind fun r6 =>
   cond (r2.2 != (0 : Int)) (kk false) (
    cond (r3.2 != (0 : Int)) (kk false) (
     cond (r5.2.2.2 != (0 : Int)) (kk false) (
      cond (r6.2 != (0 : Int)) (kk false) (
       cond (!r6.1) (kk false) (
        (gq24 r3.1 r4.1).bind fun r7 =>
        cond (!r7) (kk false) (
         (gq43 r5.1 r5.2.1 r5.2.2.1 r1.1 r1.2.1 r1.2.2).bind fun r8 =>
         cond (!r8) (kk false) (
          (gq47 r1.1 r1.2.1 r1.2.2).bind fun r9 =>
          cond (!r9) (kk false) (
           (gq17 (3000 : Int)).bind fun r10 =>
           (gq36 r10.1 r10.2.1 (0 : Int) (-1 : Int) [] r.1 r.2.1 r.2.2).bind fun r11 =>
           (gq36 r11.1 r11.2.1 r.1 r.2.1 r.2.2 r1.1 r1.2.1 r1.2.2).bind fun r12 =>
           (gq41 r12.1 r12.2.1).bind fun r13 =>
           cond (r11.2.2 == (0 : Int)) (
            cond (r12.2.2 == (0 : Int)) (
             cond (r13.2.2.2 == (0 : Int)) (
              (gq43 r13.1 r13.2.1 r13.2.2.1 r1.1 r1.2.1 r1.2.2).bind fun r14 =>
              kk r14) (kk false)) (kk false)) (kk false)))))))))))
theorem gq9.F_nat {R S : Type} (g : R → Option S) (kk : Bool → Option R) (code more) : gq9.F (fun y0 => (kk y0).bind g) code more = (gq9.F kk code more).bind g := by
 simp only [gq9.F, grd_bind, cnd_bind, bnd_bind, non_bind]
def gq9 (code : List Int) (more : List Int) : Option Bool := gq9.F (fun y0 => some y0) code more
def gq9.out : Bool → CRes := fun a => ⟨encL SV.enc [.one (.bool)] (a, ()), [encL SC.enc [] (), encL SC.enc [] ()]⟩
def gq9.ps : List PS := [.val [some ((.int .u8), false)], .val [some ((.int .u8), false)]]
def gq9.sA : List SA := [.v (.one (.slv [] (.int .u8))), .v (.one (.slv [] (.int .u8)))]
def gq9.fi : FI := FIs gq9.sA (Bool) (fun t => gq9 t.1 t.2.1) gq9.out gq9.ps
def gq9.E : Env := ⟨tt, lkF [(17, gq17.fi), (24, gq24.fi), (36, gq36.fi), (39, gq39.fi), (40, gq40.fi), (41, gq41.fi), (43, gq43.fi), (44, gq44.fi), (45, gq45.fi), (46, gq46.fi), (47, gq47.fi)], 143, 0, [], []⟩
theorem gq9.hok (hE : EOk Tryz.prog (gq9.E)) : HintOk Tryz.prog gq9.E (bodyOf Tryz.f9) (.a) := HintOk.n1 (Q := True) (by kernel_rfl) trivial
theorem gq9.hE : EOk Tryz.prog (gq9.E) := EOk.of ttOk (⟨gq17.fok, ⟨gq24.fok, ⟨gq36.fok, ⟨gq39.fok, ⟨gq40.fok, ⟨gq41.fok, ⟨gq43.fok, ⟨gq44.fok, ⟨gq45.fok, ⟨gq46.fok, ⟨gq47.fok, trivial⟩⟩⟩⟩⟩⟩⟩⟩⟩⟩⟩)
theorem gq9.fok : FOk Tryz.prog 9 gq9.fi :=
 fokS (E := gq9.E) (wy := ⟨[[none]], [[], []], []⟩) (h := (fun gs => .a)) (G := fun t g => gq9.F (fun y0 => g y0) t.1 t.2.1) (by kernel_rfl) gq9.hE Tryz.func9 (by kernel_rfl) rfl (Nat.le_refl _) (fun t => HintOk.n1 (by kernel_rfl) (gq9.hok gq9.hE)) (fun t g => gq9.F_nat g (fun y0 => some y0) _ _) (fun t => by kernel_rfl)
end
end Go.Proofs.YtaanadbpnmcbcaaGreatDoorA
