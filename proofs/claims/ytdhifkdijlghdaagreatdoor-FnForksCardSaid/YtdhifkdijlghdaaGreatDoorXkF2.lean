/-
  Functions of the program, and that the small machine's runs are these. No condition.
  Printed by wip/amp/main.py (a session's own program) out of Lean's print of the program; Lean's kernel checks it.
-/
import Derived.Test.YtdhifkdijlghdaaGreatDoorXkF1
namespace Go.Proofs.YtdhifkdijlghdaaGreatDoorA
open Go
noncomputable section
set_option linter.unusedVariables false
set_option linter.unusedSimpArgs false
set_option maxRecDepth 100000
def gq100.j1 {R : Type} (kkn : List ByteArray → Bool → ByteArray → Bool → Int → ByteArray → ByteArray → Int → ByteArray → ByteArray → Int → ByteArray → ByteArray → Option R) (proof : List ByteArray) (t_ : ByteArray) (t_1 : Bool) (t_2 : Int) (t_3 : ByteArray) (t_4 : ByteArray) (s : Int) (s1 : ByteArray) (s2 : ByteArray) (was : Int) (was1 : ByteArray) (was2 : ByteArray) : Option R :=
 cond (t_1) (kkn proof (decide (s < was)) t_ t_1 t_2 t_3 t_4 s s1 s2 was was1 was2) (kkn proof false t_ t_1 t_2 t_3 t_4 s s1 s2 was was1 was2)
theorem gq100.j1_nat {R S : Type} (g : R → Option S) (kkn : List ByteArray → Bool → ByteArray → Bool → Int → ByteArray → ByteArray → Int → ByteArray → ByteArray → Int → ByteArray → ByteArray → Option R) (proof t_ t_1 t_2 t_3 t_4 s s1 s2 was was1 was2) : gq100.j1 (fun y0 y1 y2 y3 y4 y5 y6 y7 y8 y9 y10 y11 y12 => (kkn y0 y1 y2 y3 y4 y5 y6 y7 y8 y9 y10 y11 y12).bind g) proof t_ t_1 t_2 t_3 t_4 s s1 s2 was was1 was2 = (gq100.j1 kkn proof t_ t_1 t_2 t_3 t_4 s s1 s2 was was1 was2).bind g := by
 simp only [gq100.j1, grd_bind, cnd_bind, bnd_bind, non_bind]
def gq100.j2 {R : Type} (kkn : List ByteArray → Bool → ByteArray → Bool → Int → ByteArray → ByteArray → Int → ByteArray → ByteArray → Int → ByteArray → ByteArray → Option R) (proof : List ByteArray) (t_ : ByteArray) (t_1 : Bool) (t_2 : Int) (t_3 : ByteArray) (t_4 : ByteArray) (s : Int) (s1 : ByteArray) (s2 : ByteArray) (was : Int) (was1 : ByteArray) (was2 : ByteArray) : Option R :=
 cond (t_1) (
  cond (s == was) (
   kkn proof (!((s == was) && ((sEq s1 was1) && (sEq s2 was2)))) t_ t_1 t_2 t_3 t_4 s s1 s2 was was1 was2) (kkn proof false t_ t_1 t_2 t_3 t_4 s s1 s2 was was1 was2)) (kkn proof false t_ t_1 t_2 t_3 t_4 s s1 s2 was was1 was2)
theorem gq100.j2_nat {R S : Type} (g : R → Option S) (kkn : List ByteArray → Bool → ByteArray → Bool → Int → ByteArray → ByteArray → Int → ByteArray → ByteArray → Int → ByteArray → ByteArray → Option R) (proof t_ t_1 t_2 t_3 t_4 s s1 s2 was was1 was2) : gq100.j2 (fun y0 y1 y2 y3 y4 y5 y6 y7 y8 y9 y10 y11 y12 => (kkn y0 y1 y2 y3 y4 y5 y6 y7 y8 y9 y10 y11 y12).bind g) proof t_ t_1 t_2 t_3 t_4 s s1 s2 was was1 was2 = (gq100.j2 kkn proof t_ t_1 t_2 t_3 t_4 s s1 s2 was was1 was2).bind g := by
 simp only [gq100.j2, grd_bind, cnd_bind, bnd_bind, non_bind]
def gq100.j3 {R : Type} (kkn : List ByteArray → Bool → Int → ByteArray → ByteArray → Int → ByteArray → ByteArray → Option R) (proof : List ByteArray) (t_ : ByteArray) (t_1 : Bool) (t_2 : Int) (t_3 : ByteArray) (t_4 : ByteArray) (s : Int) (s1 : ByteArray) (s2 : ByteArray) (was : Int) (was1 : ByteArray) (was2 : ByteArray) : Option R :=
 cond (t_1) (
  cond (decide (was > (0 : Int))) (kkn proof (decide (s > was)) s s1 s2 was was1 was2) (kkn proof false s s1 s2 was was1 was2)) (kkn proof false s s1 s2 was was1 was2)
theorem gq100.j3_nat {R S : Type} (g : R → Option S) (kkn : List ByteArray → Bool → Int → ByteArray → ByteArray → Int → ByteArray → ByteArray → Option R) (proof t_ t_1 t_2 t_3 t_4 s s1 s2 was was1 was2) : gq100.j3 (fun y0 y1 y2 y3 y4 y5 y6 y7 => (kkn y0 y1 y2 y3 y4 y5 y6 y7).bind g) proof t_ t_1 t_2 t_3 t_4 s s1 s2 was was1 was2 = (gq100.j3 kkn proof t_ t_1 t_2 t_3 t_4 s s1 s2 was was1 was2).bind g := by
 simp only [gq100.j3, grd_bind, cnd_bind, bnd_bind, non_bind]
def gq100.F {R : Type} (kk : Int → Option R) (t_Key : ByteArray) (t_Has : Bool) (t_Size : Int) (t_Log : ByteArray) (t_Map : ByteArray) (s_Size : Int) (s_Log : ByteArray) (s_Map : ByteArray) (proof : List ByteArray) : Option R :=
 (gq116 t_Key t_Has t_Size t_Log t_Map).bind fun r =>
 gq100.j1 (fun proof1 b t_ t_1 t_2 t_3 t_4 s s1 s2 was was1 was2 =>
  cond (b) (kk (16 : Int)) (
   gq100.j2 (fun proof2 b1 t_5 t_6 t_7 t_8 t_9 s3 s4 s5 was3 was4 was5 =>
    cond (b1) (kk (19 : Int)) (
     gq100.j3 (fun proof3 b2 s6 s7 s8 was6 was7 was8 =>
      cond (b2) (
       (gq184 was6 was7 was8 s6 s7 s8 proof3).bind fun r1 =>
       kk r1) (cond (decide ((List.length proof3 : Int) > (0 : Int))) (kk (10 : Int)) (kk (0 : Int)))) proof2 t_5 t_6 t_7 t_8 t_9 s3 s4 s5 was3 was4 was5)) proof1 t_ t_1 t_2 t_3 t_4 s s1 s2 was was1 was2)) proof t_Key t_Has t_Size t_Log t_Map s_Size s_Log s_Map r.1 r.2.1 r.2.2
theorem gq100.F_nat {R S : Type} (g : R → Option S) (kk : Int → Option R) (t_Key t_Has t_Size t_Log t_Map s_Size s_Log s_Map proof) : gq100.F (fun y0 => (kk y0).bind g) t_Key t_Has t_Size t_Log t_Map s_Size s_Log s_Map proof = (gq100.F kk t_Key t_Has t_Size t_Log t_Map s_Size s_Log s_Map proof).bind g := by
 simp only [gq100.F, grd_bind, cnd_bind, bnd_bind, non_bind, ← gq100.j1_nat, ← gq100.j2_nat, ← gq100.j3_nat]
def gq100 (t_Key : ByteArray) (t_Has : Bool) (t_Size : Int) (t_Log : ByteArray) (t_Map : ByteArray) (s_Size : Int) (s_Log : ByteArray) (s_Map : ByteArray) (proof : List ByteArray) : Option Int := gq100.F (fun y0 => some y0) t_Key t_Has t_Size t_Log t_Map s_Size s_Log s_Map proof
def gq100.out : Int → CRes := fun a => ⟨encL SV.enc [.one (.int .i64)] (a, ()), [encL SC.enc [] (), encL SC.enc [] (), encL SC.enc [] ()]⟩
def gq100.ps : List PS := [.val [none, none, none, none, none], .val [none, none, none], .val [some (.str, false)]]
def gq100.sA : List SA := [.v (.agg [.str, .bool, .int .i64, .str, .str]), .v (.agg [.int .i64, .str, .str]), .v (.one (.slv [] .str))]
def gq100.fi : FI := FIs gq100.sA (Int) (fun t => gq100 t.1.1 t.1.2.1 t.1.2.2.1 t.1.2.2.2.1 t.1.2.2.2.2.1 t.2.1.1 t.2.1.2.1 t.2.1.2.2.1 t.2.2.1) gq100.out gq100.ps
def gq100.E : Env := ⟨tt, lkF [(116, gq116.fi), (184, gq184.fi)], 58, 0, [], [], []⟩
def gq100.sh1 : SK := ⟨[.v (.one (.slv [3] .str)), .v (.one (.bptr 0 0)), .v (.one (.bptr 1 0)), .v (.one (.bptr 2 0))], [.box [.str, .bool, .int .i64, .str, .str], .box [.int .i64, .str, .str], .box [.int .i64, .str, .str]]⟩
def gq100.sh1n : SK := ⟨[.v (.one (.slv [3] .str)), .v (.one (.bptr 0 0)), .v (.one (.bptr 1 0)), .v (.one (.bptr 2 0)), .v (.one (.bool))], [.box [.str, .bool, .int .i64, .str, .str], .box [.int .i64, .str, .str], .box [.int .i64, .str, .str]]⟩
def gq100.ko1 : Ex → List CastAt × List Nat
 | .nrm => ([], [2, 3, 4, 7, 10])
 | .ret => ([], [])
 | .ext i => ([], [])
def gq100.G1 (R : Type) (t : gq100.sh1.T) (K : Ex → Kp → Option R) : Option R := gq100.j1 (fun y0 y1 y2 y3 y4 y5 y6 y7 y8 y9 y10 y11 y12 => K .nrm (SK.enc gq100.sh1n ((y0, (), (), (), y1, ()), ((y2, y3, y4, y5, y6, ()), (y7, y8, y9, ()), (y10, y11, y12, ()), ())))) t.1.1 t.2.1.1 t.2.1.2.1 t.2.1.2.2.1 t.2.1.2.2.2.1 t.2.1.2.2.2.2.1 t.2.2.1.1 t.2.2.1.2.1 t.2.2.1.2.2.1 t.2.2.2.1.1 t.2.2.2.1.2.1 t.2.2.2.1.2.2.1
def gq100.S1 : Sum := ⟨([], [2, 3, 4, 7]), sumF gq100.sh1 (gq100.G1), gq100.ko1⟩
theorem gq100.ok1 (hE : EOk Tryz.prog (gq100.E)) : SumOk Tryz.prog gq100.E (cL (cB (cL (cR (cR (bodyOf Tryz.f100)))))) (gq100.S1) := by
 have hh : HintOk Tryz.prog gq100.E (cL (cB (cL (cR (cR (bodyOf Tryz.f100)))))) (.a) := HintOk.n1 (Q := True) (by kernel_rfl) trivial
 exact sumS (kin := ([], [2, 3, 4, 7])) (kout := gq100.ko1) (sh := gq100.sh1) (F := gq100.G1) (ops_ok (hE.gv _)) (by kernel_rfl) hh (fun R t K => by kernel_rfl)
def gq100.sh2 : SK := ⟨[.v (.one (.slv [3] .str)), .v (.one (.bptr 0 0)), .v (.one (.bptr 1 0)), .v (.one (.bptr 2 0))], [.box [.str, .bool, .int .i64, .str, .str], .box [.int .i64, .str, .str], .box [.int .i64, .str, .str]]⟩
def gq100.sh2n : SK := ⟨[.v (.one (.slv [3] .str)), .v (.one (.bptr 0 0)), .v (.one (.bptr 1 0)), .v (.one (.bptr 2 0)), .v (.one (.bool))], [.box [.str, .bool, .int .i64, .str, .str], .box [.int .i64, .str, .str], .box [.int .i64, .str, .str]]⟩
def gq100.ko2 : Ex → List CastAt × List Nat
 | .nrm => ([], [2, 3, 4, 7, 20])
 | .ret => ([], [])
 | .ext i => ([], [])
def gq100.G2 (R : Type) (t : gq100.sh2.T) (K : Ex → Kp → Option R) : Option R := gq100.j2 (fun y0 y1 y2 y3 y4 y5 y6 y7 y8 y9 y10 y11 y12 => K .nrm (SK.enc gq100.sh2n ((y0, (), (), (), y1, ()), ((y2, y3, y4, y5, y6, ()), (y7, y8, y9, ()), (y10, y11, y12, ()), ())))) t.1.1 t.2.1.1 t.2.1.2.1 t.2.1.2.2.1 t.2.1.2.2.2.1 t.2.1.2.2.2.2.1 t.2.2.1.1 t.2.2.1.2.1 t.2.2.1.2.2.1 t.2.2.2.1.1 t.2.2.2.1.2.1 t.2.2.2.1.2.2.1
def gq100.S2 : Sum := ⟨([], [2, 3, 4, 7]), sumF gq100.sh2 (gq100.G2), gq100.ko2⟩
theorem gq100.ok2 (hE : EOk Tryz.prog (gq100.E)) : SumOk Tryz.prog gq100.E (cL (cR (cR (cB (cL (cR (cR (bodyOf Tryz.f100)))))))) (gq100.S2) := by
 have hh : HintOk Tryz.prog gq100.E (cL (cR (cR (cB (cL (cR (cR (bodyOf Tryz.f100)))))))) (.a) := HintOk.n1 (Q := True) (by kernel_rfl) trivial
 exact sumS (kin := ([], [2, 3, 4, 7])) (kout := gq100.ko2) (sh := gq100.sh2) (F := gq100.G2) (ops_ok (hE.gv _)) (by kernel_rfl) hh (fun R t K => by kernel_rfl)
def gq100.sh3 : SK := ⟨[.v (.one (.slv [3] .str)), .v (.one (.bptr 0 0)), .v (.one (.bptr 1 0)), .v (.one (.bptr 2 0))], [.box [.str, .bool, .int .i64, .str, .str], .box [.int .i64, .str, .str], .box [.int .i64, .str, .str]]⟩
def gq100.sh3n : SK := ⟨[.v (.one (.slv [3] .str)), .v (.one (.bptr 0 0)), .v (.one (.bptr 1 0)), .v (.one (.bool))], [.box [.int .i64, .str, .str], .box [.int .i64, .str, .str]]⟩
def gq100.ko3 : Ex → List CastAt × List Nat
 | .nrm => ([], [2, 4, 7, 35])
 | .ret => ([], [])
 | .ext i => ([], [])
def gq100.G3 (R : Type) (t : gq100.sh3.T) (K : Ex → Kp → Option R) : Option R := gq100.j3 (fun y0 y1 y2 y3 y4 y5 y6 y7 => K .nrm (SK.enc gq100.sh3n ((y0, (), (), y1, ()), ((y2, y3, y4, ()), (y5, y6, y7, ()), ())))) t.1.1 t.2.1.1 t.2.1.2.1 t.2.1.2.2.1 t.2.1.2.2.2.1 t.2.1.2.2.2.2.1 t.2.2.1.1 t.2.2.1.2.1 t.2.2.1.2.2.1 t.2.2.2.1.1 t.2.2.2.1.2.1 t.2.2.2.1.2.2.1
def gq100.S3 : Sum := ⟨([], [2, 3, 4, 7]), sumF gq100.sh3 (gq100.G3), gq100.ko3⟩
theorem gq100.ok3 (hE : EOk Tryz.prog (gq100.E)) : SumOk Tryz.prog gq100.E (cL (cR (cR (cR (cR (cB (cL (cR (cR (bodyOf Tryz.f100)))))))))) (gq100.S3) := by
 have hh : HintOk Tryz.prog gq100.E (cL (cR (cR (cR (cR (cB (cL (cR (cR (bodyOf Tryz.f100)))))))))) (.a) := HintOk.n1 (Q := True) (by kernel_rfl) trivial
 exact sumS (kin := ([], [2, 3, 4, 7])) (kout := gq100.ko3) (sh := gq100.sh3) (F := gq100.G3) (ops_ok (hE.gv _)) (by kernel_rfl) hh (fun R t K => by kernel_rfl)
theorem gq100.hok (hE : EOk Tryz.prog (gq100.E)) : HintOk Tryz.prog gq100.E (bodyOf Tryz.f100) (.n (.a) (.n (.a) (.n (.b (.n (.s (gq100.S1)) (.n (.a) (.n (.s (gq100.S2)) (.n (.a) (.n (.s (gq100.S3)) (.a))))))) (.a)))) := HintOk.n1 (Q := (True) ∧ ((True) ∧ (((SumOk Tryz.prog gq100.E (cL (cB (cL (cR (cR (bodyOf Tryz.f100)))))) (gq100.S1)) ∧ ((True) ∧ ((SumOk Tryz.prog gq100.E (cL (cR (cR (cB (cL (cR (cR (bodyOf Tryz.f100)))))))) (gq100.S2)) ∧ ((True) ∧ ((SumOk Tryz.prog gq100.E (cL (cR (cR (cR (cR (cB (cL (cR (cR (bodyOf Tryz.f100)))))))))) (gq100.S3)) ∧ (True)))))) ∧ (True)))) (by kernel_rfl) ⟨trivial, ⟨trivial, ⟨⟨(gq100.ok1 hE), ⟨trivial, ⟨(gq100.ok2 hE), ⟨trivial, ⟨(gq100.ok3 hE), trivial⟩⟩⟩⟩⟩, trivial⟩⟩⟩
theorem gq100.hE : EOk Tryz.prog (gq100.E) := EOk.of ttOk (⟨gq116.fok, ⟨gq184.fok, trivial⟩⟩)
theorem gq100.fok : FOk Tryz.prog 100 gq100.fi :=
 fokS (E := gq100.E) (wy := ⟨[[none]], [[], [], []], []⟩) (h := (fun gs => .n (.a) (.n (.a) (.n (.b (.n (.s (gq100.S1)) (.n (.a) (.n (.s (gq100.S2)) (.n (.a) (.n (.s (gq100.S3)) (.a))))))) (.a))))) (G := fun t g => gq100.F (fun y0 => g y0) t.1.1 t.1.2.1 t.1.2.2.1 t.1.2.2.2.1 t.1.2.2.2.2.1 t.2.1.1 t.2.1.2.1 t.2.1.2.2.1 t.2.2.1) (by kernel_rfl) gq100.hE Tryz.func100 (by kernel_rfl) rfl (Nat.le_refl _) (fun t => HintOk.n1 (by kernel_rfl) (gq100.hok gq100.hE)) (fun t g => gq100.F_nat g (fun y0 => some y0) _ _ _ _ _ _ _ _ _) (fun t => by kernel_rfl)
def gq32.F {R : Type} (kk : ByteArray → Bool → Int → ByteArray → ByteArray → Int → Option R) (t_Key : ByteArray) (t_Has : Bool) (t_Size : Int) (t_Log : ByteArray) (t_Map : ByteArray) (s_Size : Int) (s_Log : ByteArray) (s_Map : ByteArray) (x_Index : Int) (x_Parts : List ByteArray) (x_Path : List ByteArray) (proof : List ByteArray) : Option R :=
 (gq98 proof []).bind fun r =>
 cond (r != (0 : Int)) (kk ByteArray.empty false (0 : Int) ByteArray.empty ByteArray.empty r) (
  (gq43 t_Key t_Has t_Size t_Log t_Map).bind fun r1 =>
  cond (!r1) (kk ByteArray.empty false (0 : Int) ByteArray.empty ByteArray.empty (1 : Int)) (
   (gq95 s_Size s_Log s_Map).bind fun r2 =>
   cond (!r2) (kk ByteArray.empty false (0 : Int) ByteArray.empty ByteArray.empty (1 : Int)) (
    (gq73 s_Size s_Log s_Map).bind fun r3 =>
    (gq99 t_Key r3 x_Index x_Parts x_Path).bind fun r4 =>
    cond (r4 != (0 : Int)) (kk t_Key t_Has t_Size t_Log t_Map r4) (
     (gq100 t_Key t_Has t_Size t_Log t_Map s_Size s_Log s_Map proof).bind fun r5 =>
     cond (r5 != (0 : Int)) (kk t_Key t_Has t_Size t_Log t_Map r5) (kk t_Key true s_Size s_Log s_Map (0 : Int))))))
theorem gq32.F_nat {R S : Type} (g : R → Option S) (kk : ByteArray → Bool → Int → ByteArray → ByteArray → Int → Option R) (t_Key t_Has t_Size t_Log t_Map s_Size s_Log s_Map x_Index x_Parts x_Path proof) : gq32.F (fun y0 y1 y2 y3 y4 y5 => (kk y0 y1 y2 y3 y4 y5).bind g) t_Key t_Has t_Size t_Log t_Map s_Size s_Log s_Map x_Index x_Parts x_Path proof = (gq32.F kk t_Key t_Has t_Size t_Log t_Map s_Size s_Log s_Map x_Index x_Parts x_Path proof).bind g := by
 simp only [gq32.F, grd_bind, cnd_bind, bnd_bind, non_bind]
def gq32 (t_Key : ByteArray) (t_Has : Bool) (t_Size : Int) (t_Log : ByteArray) (t_Map : ByteArray) (s_Size : Int) (s_Log : ByteArray) (s_Map : ByteArray) (x_Index : Int) (x_Parts : List ByteArray) (x_Path : List ByteArray) (proof : List ByteArray) : Option (ByteArray × Bool × Int × ByteArray × ByteArray × Int) := gq32.F (fun y0 y1 y2 y3 y4 y5 => some (y0, y1, y2, y3, y4, y5)) t_Key t_Has t_Size t_Log t_Map s_Size s_Log s_Map x_Index x_Parts x_Path proof
def gq32.out : (ByteArray × Bool × Int × ByteArray × ByteArray × Int) → CRes := fun a => ⟨encL SV.enc [.agg [.str, .bool, .int .i64, .str, .str], .one (.int .i64)] ((a.1, a.2.1, a.2.2.1, a.2.2.2.1, a.2.2.2.2.1, ()), a.2.2.2.2.2, ()), [encL SC.enc [] (), encL SC.enc [] (), encL SC.enc [] (), encL SC.enc [] ()]⟩
def gq32.ps : List PS := [.val [none, none, none, none, none], .val [none, none, none], .val [none, some (.str, false), some (.str, false)], .val [some (.str, false)]]
def gq32.sA : List SA := [.v (.agg [.str, .bool, .int .i64, .str, .str]), .v (.agg [.int .i64, .str, .str]), .v (.agg [.int .i64, .slv [] .str, .slv [] .str]), .v (.one (.slv [] .str))]
def gq32.fi : FI := FIs gq32.sA (ByteArray × Bool × Int × ByteArray × ByteArray × Int) (fun t => gq32 t.1.1 t.1.2.1 t.1.2.2.1 t.1.2.2.2.1 t.1.2.2.2.2.1 t.2.1.1 t.2.1.2.1 t.2.1.2.2.1 t.2.2.1.1 t.2.2.1.2.1 t.2.2.1.2.2.1 t.2.2.2.1) gq32.out gq32.ps
def gq32.E : Env := ⟨tt, lkF [(43, gq43.fi), (73, gq73.fi), (95, gq95.fi), (98, gq98.fi), (99, gq99.fi), (100, gq100.fi)], 55, 0, [], [], []⟩
theorem gq32.hok (hE : EOk Tryz.prog (gq32.E)) : HintOk Tryz.prog gq32.E (bodyOf Tryz.f32) (.a) := HintOk.n1 (Q := True) (by kernel_rfl) trivial
theorem gq32.hE : EOk Tryz.prog (gq32.E) := EOk.of ttOk (⟨gq43.fok, ⟨gq73.fok, ⟨gq95.fok, ⟨gq98.fok, ⟨gq99.fok, ⟨gq100.fok, trivial⟩⟩⟩⟩⟩⟩)
theorem gq32.fok : FOk Tryz.prog 32 gq32.fi :=
 fokS (E := gq32.E) (wy := ⟨[[none, none, none, none, none], [none]], [[], [], [], []], []⟩) (h := (fun gs => .a)) (G := fun t g => gq32.F (fun y0 y1 y2 y3 y4 y5 => g (y0, y1, y2, y3, y4, y5)) t.1.1 t.1.2.1 t.1.2.2.1 t.1.2.2.2.1 t.1.2.2.2.2.1 t.2.1.1 t.2.1.2.1 t.2.1.2.2.1 t.2.2.1.1 t.2.2.1.2.1 t.2.2.1.2.2.1 t.2.2.2.1) (by kernel_rfl) gq32.hE Tryz.func32 (by kernel_rfl) rfl (Nat.le_refl _) (fun t => HintOk.n1 (by kernel_rfl) (gq32.hok gq32.hE)) (fun t g => gq32.F_nat g (fun y0 y1 y2 y3 y4 y5 => some (y0, y1, y2, y3, y4, y5)) _ _ _ _ _ _ _ _ _ _ _ _) (fun t => by kernel_rfl)
def gq151.F {R : Type} (rc : Int → Option ByteArray) (kk : ByteArray → Option R) (n_ : Int) : Option R :=
 cond (n_ == (-9223372036854775808 : Int)) (
  kk (⟨#[45, 57, 50, 50, 51, 51, 55, 50, 48, 51, 54, 56, 53, 52, 55, 55, 53, 56, 48, 56]⟩ : ByteArray)) (
  cond (decide (n_ < (0 : Int))) (
   (rc (IntKind.wrap .i64 (0 - n_))).bind fun r =>
   grd (gCat (⟨#[45]⟩ : ByteArray) r) <|
   kk ((⟨#[45]⟩ : ByteArray) ++ r)) (
   cond (decide (n_ < (10 : Int))) (kk (strL [IntKind.wrap .u8 (IntKind.wrap .i64 ((48 : Int) + n_))])) (
    grd (gNz (10 : Int)) <|
    (rc (IntKind.wrap .i64 (Int.tdiv n_ (10 : Int)))).bind fun r1 =>
    grd (gNz (10 : Int)) <|
    grd (gCat r1 (strL [IntKind.wrap .u8 (IntKind.wrap .i64 ((48 : Int) + (Int.tmod n_ (10 : Int))))])) <|
    kk (r1 ++ (strL [IntKind.wrap .u8 (IntKind.wrap .i64 ((48 : Int) + (Int.tmod n_ (10 : Int))))])))))
theorem gq151.F_nat {R S : Type} (g : R → Option S) (rc : Int → Option ByteArray) (kk : ByteArray → Option R) (n_) : gq151.F rc (fun y0 => (kk y0).bind g) n_ = (gq151.F rc kk n_).bind g := by
 simp only [gq151.F, grd_bind, cnd_bind, bnd_bind, non_bind]
def gq151 : Nat → Int → Option ByteArray
 | 0, _ => none
 | fu + 1, n_ => gq151.F (gq151 fu) (fun y0 => some y0) n_
theorem gq151_nat {S : Type} (fu : Nat) (g : ByteArray → Option S) (n_ : Int) : gq151.F (gq151 fu) (fun y0 => g y0) n_ = (gq151 (fu + 1) n_).bind g := gq151.F_nat g (gq151 fu) (fun y0 => some y0) n_
def gq151.out : ByteArray → CRes := fun a => ⟨encL SV.enc [.one (.str)] (a, ()), [encL SC.enc [] ()]⟩
def gq151.ps : List PS := [.val [none]]
def gq151.sA : List SA := [.v (.one (.int .i64))]
def gq151.fi (fu : Nat) : FI := FIs gq151.sA (ByteArray) (fun t => gq151 fu t.1) gq151.out gq151.ps
def gq151.E (fu : Nat) : Env := ⟨tt, lkF [(151, gq151.fi fu)], 28, 0, [], [], []⟩
theorem gq151.hok (fu : Nat) (hE : EOk Tryz.prog (gq151.E fu)) : HintOk Tryz.prog (gq151.E fu) (bodyOf Tryz.f151) (.a) := HintOk.n1 (Q := True) (by kernel_rfl) trivial
theorem gq151.fok0 : FOk Tryz.prog 151 (gq151.fi 0) := FOk.zero ⟨_, _, Tryz.func151, by kernel_rfl, rfl⟩ (fun _ => rfl)
theorem gq151.fok1 (fu : Nat) (ih : FOk Tryz.prog 151 (gq151.fi fu)) : FOk Tryz.prog 151 (gq151.fi (fu + 1)) := by
 have hE : EOk Tryz.prog (gq151.E fu) := EOk.of ttOk (⟨ih, trivial⟩)
 exact fokS (E := gq151.E fu) (wy := ⟨[[none]], [[]], []⟩) (h := (fun gs => .a)) (G := fun t g => gq151.F (gq151 fu) (fun y0 => g y0) t.1) (by kernel_rfl) hE Tryz.func151 (by kernel_rfl) rfl (Nat.le_refl _) (fun t => HintOk.n1 (by kernel_rfl) (gq151.hok fu hE)) (fun t g => gq151_nat fu g t.1) (fun t => by kernel_rfl)
theorem gq151.fok (fu : Nat) : FOk Tryz.prog 151 (gq151.fi fu) := Nat.rec gq151.fok0 gq151.fok1 fu
def gq152.l1 {R : Type} (kke0 : List Int → Option R) : Nat → ByteArray → Int → List Int → Option R
 | 0, _, _, _ => none
 | n + 1, t_, i, out =>
  cond (decide (i < (ByteArray.size t_ : Int))) (
   grd (gIx i (ByteArray.size t_)) <|
   grd (gNz (16 : Int)) <|
   grd (gIx (IntKind.wrap .u8 (Int.tdiv (byteAt t_ i) (16 : Int))) (ByteArray.size (⟨#[48, 49, 50, 51, 52, 53, 54, 55, 56, 57, 97, 98, 99, 100, 101, 102]⟩ : ByteArray))) <|
   grd (gIx i (ByteArray.size t_)) <|
   grd (gNz (16 : Int)) <|
   grd (gIx (Int.tmod (byteAt t_ i) (16 : Int)) (ByteArray.size (⟨#[48, 49, 50, 51, 52, 53, 54, 55, 56, 57, 97, 98, 99, 100, 101, 102]⟩ : ByteArray))) <|
   grd (gRm (((List.length out) + (List.length ([byteAt (⟨#[48, 49, 50, 51, 52, 53, 54, 55, 56, 57, 97, 98, 99, 100, 101, 102]⟩ : ByteArray) (IntKind.wrap .u8 (Int.tdiv (byteAt t_ i) (16 : Int))), byteAt (⟨#[48, 49, 50, 51, 52, 53, 54, 55, 56, 57, 97, 98, 99, 100, 101, 102]⟩ : ByteArray) (Int.tmod (byteAt t_ i) (16 : Int))]))) * 1)) <|
   gq152.l1 kke0 n t_ (IntKind.wrap .i64 (i + (1 : Int))) (out ++ ([byteAt (⟨#[48, 49, 50, 51, 52, 53, 54, 55, 56, 57, 97, 98, 99, 100, 101, 102]⟩ : ByteArray) (IntKind.wrap .u8 (Int.tdiv (byteAt t_ i) (16 : Int))), byteAt (⟨#[48, 49, 50, 51, 52, 53, 54, 55, 56, 57, 97, 98, 99, 100, 101, 102]⟩ : ByteArray) (Int.tmod (byteAt t_ i) (16 : Int))]))) (kke0 out)
theorem gq152.l1_nat {R S : Type} (g : R → Option S) (kke0 : List Int → Option R) : ∀ n t_ i out, gq152.l1 (fun y0 => (kke0 y0).bind g) n t_ i out = (gq152.l1 kke0 n t_ i out).bind g := by
 intro n
 induction n with
 | zero => intros; rfl
 | succ n ih => intros; simp only [gq152.l1, grd_bind, cnd_bind, bnd_bind, non_bind, ih]
def gq152.F {R : Type} (kk : ByteArray → Option R) (t_ : ByteArray) : Option R :=
 gq152.l1 (fun out => kk (strL out)) fuel t_ (0 : Int) ([] : List Int)
theorem gq152.F_nat {R S : Type} (g : R → Option S) (kk : ByteArray → Option R) (t_) : gq152.F (fun y0 => (kk y0).bind g) t_ = (gq152.F kk t_).bind g := by
 simp only [gq152.F, grd_bind, cnd_bind, bnd_bind, non_bind, ← gq152.l1_nat]
def gq152 (t_ : ByteArray) : Option ByteArray := gq152.F (fun y0 => some y0) t_
def gq152.out : ByteArray → CRes := fun a => ⟨encL SV.enc [.one (.str)] (a, ()), [encL SC.enc [] ()]⟩
def gq152.ps : List PS := [.val [none]]
def gq152.sA : List SA := [.v (.one (.str))]
def gq152.fi : FI := FIs gq152.sA (ByteArray) (fun t => gq152 t.1) gq152.out gq152.ps
def gq152.E : Env := ⟨tt, lkF [], 27, 0, [], [], []⟩
def gq152.sh1 : SK := ⟨[.v (.one (.str)), .v (.one (.slo 0)), .v (.one (.int .i64))], [.arr (.int .u8) [] true]⟩
def gq152.sh1e0 : SK := ⟨[.v (.one (.slo 0))], [.arr (.int .u8) [] true]⟩
def gq152.ko1 : Ex → List CastAt × List Nat
 | .nrm => ([], [])
 | .ret => ([], [])
 | .ext i => cond (Nat.beq i 0) ([], [3]) ([], [])
def gq152.G1 (n : Nat) (R : Type) (t : gq152.sh1.T) (K : Ex → Kp → Option R) : Option R := gq152.l1 (fun y0 => K (.ext 0) (SK.enc gq152.sh1e0 (((), ()), (y0, ())))) n t.1.1 t.1.2.2.1 t.2.1
def gq152.S1 : Sum := ⟨([], [0, 3, 4]), sumF gq152.sh1 (gq152.G1 fuel), gq152.ko1⟩
theorem gq152.ok1 (hE : EOk Tryz.prog (gq152.E)) : SumOk Tryz.prog gq152.E (cB (cR (cL (cR (cR (bodyOf Tryz.f152)))))) (gq152.S1) := by
 have hh : HintOk Tryz.prog gq152.E (cB (cB (cR (cL (cR (cR (bodyOf Tryz.f152))))))) (.a) := HintOk.n1 (Q := True) (by kernel_rfl) trivial
 have h := loopS (kin := ([], [0, 3, 4])) (kout := gq152.ko1) (sh := gq152.sh1) (F := gq152.G1) (ops_ok (hE.gv _)) (by kernel_rfl) hh (fun _ _ _ => rfl) (fun n R t K => by kernel_rfl) fuel
 exact HintOk.n1 (c := (cB (cR (cL (cR (cR (bodyOf Tryz.f152))))))) (h := .s (gq152.S1)) (P := Tryz.prog) (E := gq152.E) (by kernel_rfl) h
theorem gq152.hok (hE : EOk Tryz.prog (gq152.E)) : HintOk Tryz.prog gq152.E (bodyOf Tryz.f152) (.n (.a) (.n (.a) (.n (.n (.a) (.b (.s (gq152.S1)))) (.a)))) := HintOk.n1 (Q := (True) ∧ ((True) ∧ (((True) ∧ (SumOk Tryz.prog gq152.E (cB (cR (cL (cR (cR (bodyOf Tryz.f152)))))) (gq152.S1))) ∧ (True)))) (by kernel_rfl) ⟨trivial, ⟨trivial, ⟨⟨trivial, (gq152.ok1 hE)⟩, trivial⟩⟩⟩
theorem gq152.hE : EOk Tryz.prog (gq152.E) := EOk.of ttOk (trivial)
theorem gq152.fok : FOk Tryz.prog 152 gq152.fi :=
 fokS (E := gq152.E) (wy := ⟨[[none]], [[]], []⟩) (h := (fun gs => .n (.a) (.n (.a) (.n (.n (.a) (.b (.s (gq152.S1)))) (.a))))) (G := fun t g => gq152.F (fun y0 => g y0) t.1) (by kernel_rfl) gq152.hE Tryz.func152 (by kernel_rfl) rfl (Nat.le_refl _) (fun t => HintOk.n1 (by kernel_rfl) (gq152.hok gq152.hE)) (fun t g => gq152.F_nat g (fun y0 => some y0) _) (fun t => by kernel_rfl)
def gq63.F {R : Type} (kk : ByteArray → Option R) (s_Size : Int) (s_Log : ByteArray) (s_Map : ByteArray) : Option R :=
 (gq151 fuel s_Size).bind fun r =>
 grd (gCat (⟨#[115, 105, 122, 101, 32]⟩ : ByteArray) r) <|
 grd (gCat ((⟨#[115, 105, 122, 101, 32]⟩ : ByteArray) ++ r) (⟨#[32, 108, 111, 103, 32]⟩ : ByteArray)) <|
 (gq152 s_Log).bind fun r1 =>
 grd (gCat (((⟨#[115, 105, 122, 101, 32]⟩ : ByteArray) ++ r) ++ (⟨#[32, 108, 111, 103, 32]⟩ : ByteArray)) r1) <|
 grd (gCat ((((⟨#[115, 105, 122, 101, 32]⟩ : ByteArray) ++ r) ++ (⟨#[32, 108, 111, 103, 32]⟩ : ByteArray)) ++ r1) (⟨#[32, 109, 97, 112, 32]⟩ : ByteArray)) <|
 (gq152 s_Map).bind fun r2 =>
 grd (gCat (((((⟨#[115, 105, 122, 101, 32]⟩ : ByteArray) ++ r) ++ (⟨#[32, 108, 111, 103, 32]⟩ : ByteArray)) ++ r1) ++ (⟨#[32, 109, 97, 112, 32]⟩ : ByteArray)) r2) <|
 kk ((((((⟨#[115, 105, 122, 101, 32]⟩ : ByteArray) ++ r) ++ (⟨#[32, 108, 111, 103, 32]⟩ : ByteArray)) ++ r1) ++ (⟨#[32, 109, 97, 112, 32]⟩ : ByteArray)) ++ r2)
theorem gq63.F_nat {R S : Type} (g : R → Option S) (kk : ByteArray → Option R) (s_Size s_Log s_Map) : gq63.F (fun y0 => (kk y0).bind g) s_Size s_Log s_Map = (gq63.F kk s_Size s_Log s_Map).bind g := by
 simp only [gq63.F, grd_bind, cnd_bind, bnd_bind, non_bind]
def gq63 (s_Size : Int) (s_Log : ByteArray) (s_Map : ByteArray) : Option ByteArray := gq63.F (fun y0 => some y0) s_Size s_Log s_Map
def gq63.out : ByteArray → CRes := fun a => ⟨encL SV.enc [.one (.str)] (a, ()), [encL SC.enc [] ()]⟩
def gq63.ps : List PS := [.val [none, none, none]]
def gq63.sA : List SA := [.v (.agg [.int .i64, .str, .str])]
def gq63.fi : FI := FIs gq63.sA (ByteArray) (fun t => gq63 t.1.1 t.1.2.1 t.1.2.2.1) gq63.out gq63.ps
def gq63.E : Env := ⟨tt, lkF [(151, gq151.fi fuel), (152, gq152.fi)], 17, 0, [], [], []⟩
theorem gq63.hok (hE : EOk Tryz.prog (gq63.E)) : HintOk Tryz.prog gq63.E (bodyOf Tryz.f63) (.a) := HintOk.n1 (Q := True) (by kernel_rfl) trivial
theorem gq63.hE : EOk Tryz.prog (gq63.E) := EOk.of ttOk (⟨gq151.fok fuel, ⟨gq152.fok, trivial⟩⟩)
theorem gq63.fok : FOk Tryz.prog 63 gq63.fi :=
 fokS (E := gq63.E) (wy := ⟨[[none]], [[]], []⟩) (h := (fun gs => .a)) (G := fun t g => gq63.F (fun y0 => g y0) t.1.1 t.1.2.1 t.1.2.2.1) (by kernel_rfl) gq63.hE Tryz.func63 (by kernel_rfl) rfl (Nat.le_refl _) (fun t => HintOk.n1 (by kernel_rfl) (gq63.hok gq63.hE)) (fun t g => gq63.F_nat g (fun y0 => some y0) _ _ _) (fun t => by kernel_rfl)
def gq144.F {R : Type} (kk : Bool → Option R) (n_ : Int) (low : Int) (high : Int) : Option R :=
 cond (decide (n_ ≥ low)) (kk (decide (n_ ≤ high))) (kk false)
theorem gq144.F_nat {R S : Type} (g : R → Option S) (kk : Bool → Option R) (n_ low high) : gq144.F (fun y0 => (kk y0).bind g) n_ low high = (gq144.F kk n_ low high).bind g := by
 simp only [gq144.F, grd_bind, cnd_bind, bnd_bind, non_bind]
def gq144 (n_ : Int) (low : Int) (high : Int) : Option Bool := gq144.F (fun y0 => some y0) n_ low high
def gq144.out : Bool → CRes := fun a => ⟨encL SV.enc [.one (.bool)] (a, ()), [encL SC.enc [] (), encL SC.enc [] (), encL SC.enc [] ()]⟩
def gq144.ps : List PS := [.val [none], .val [none], .val [none]]
def gq144.sA : List SA := [.v (.one (.int .i64)), .v (.one (.int .i64)), .v (.one (.int .i64))]
def gq144.fi : FI := FIs gq144.sA (Bool) (fun t => gq144 t.1 t.2.1 t.2.2.1) gq144.out gq144.ps
def gq144.E : Env := ⟨tt, lkF [], 15, 0, [], [], []⟩
theorem gq144.hok (hE : EOk Tryz.prog (gq144.E)) : HintOk Tryz.prog gq144.E (bodyOf Tryz.f144) (.a) := HintOk.n1 (Q := True) (by kernel_rfl) trivial
theorem gq144.hE : EOk Tryz.prog (gq144.E) := EOk.of ttOk (trivial)
theorem gq144.fok : FOk Tryz.prog 144 gq144.fi :=
 fokS (E := gq144.E) (wy := ⟨[[none]], [[], [], []], []⟩) (h := (fun gs => .a)) (G := fun t g => gq144.F (fun y0 => g y0) t.1 t.2.1 t.2.2.1) (by kernel_rfl) gq144.hE Tryz.func144 (by kernel_rfl) rfl (Nat.le_refl _) (fun t => HintOk.n1 (by kernel_rfl) (gq144.hok gq144.hE)) (fun t g => gq144.F_nat g (fun y0 => some y0) _ _ _) (fun t => by kernel_rfl)
def gq102.F {R : Type} (kk : Bool → Option R) (s_Size : Int) (s_Log : ByteArray) (s_Map : ByteArray) : Option R :=
 (gq144 s_Size (0 : Int) (50 : Int)).bind fun r =>
 cond (r) (
  cond ((ByteArray.size s_Log : Int) == (32 : Int)) (kk ((ByteArray.size s_Map : Int) == (32 : Int))) (kk false)) (kk false)
theorem gq102.F_nat {R S : Type} (g : R → Option S) (kk : Bool → Option R) (s_Size s_Log s_Map) : gq102.F (fun y0 => (kk y0).bind g) s_Size s_Log s_Map = (gq102.F kk s_Size s_Log s_Map).bind g := by
 simp only [gq102.F, grd_bind, cnd_bind, bnd_bind, non_bind]
def gq102 (s_Size : Int) (s_Log : ByteArray) (s_Map : ByteArray) : Option Bool := gq102.F (fun y0 => some y0) s_Size s_Log s_Map
def gq102.out : Bool → CRes := fun a => ⟨encL SV.enc [.one (.bool)] (a, ()), [encL SC.enc [] ()]⟩
def gq102.ps : List PS := [.val [none, none, none]]
def gq102.sA : List SA := [.v (.agg [.int .i64, .str, .str])]
def gq102.fi : FI := FIs gq102.sA (Bool) (fun t => gq102 t.1.1 t.1.2.1 t.1.2.2.1) gq102.out gq102.ps
def gq102.E : Env := ⟨tt, lkF [(144, gq144.fi)], 18, 0, [], [], []⟩
theorem gq102.hok (hE : EOk Tryz.prog (gq102.E)) : HintOk Tryz.prog gq102.E (bodyOf Tryz.f102) (.a) := HintOk.n1 (Q := True) (by kernel_rfl) trivial
theorem gq102.hE : EOk Tryz.prog (gq102.E) := EOk.of ttOk (⟨gq144.fok, trivial⟩)
theorem gq102.fok : FOk Tryz.prog 102 gq102.fi :=
 fokS (E := gq102.E) (wy := ⟨[[none]], [[]], []⟩) (h := (fun gs => .a)) (G := fun t g => gq102.F (fun y0 => g y0) t.1.1 t.1.2.1 t.1.2.2.1) (by kernel_rfl) gq102.hE Tryz.func102 (by kernel_rfl) rfl (Nat.le_refl _) (fun t => HintOk.n1 (by kernel_rfl) (gq102.hok gq102.hE)) (fun t g => gq102.F_nat g (fun y0 => some y0) _ _ _) (fun t => by kernel_rfl)
def gq101.F {R : Type} (kk : Bool → Option R) (t_Key : ByteArray) (t_Has : Bool) (t_Size : Int) (t_Log : ByteArray) (t_Map : ByteArray) : Option R :=
 cond ((ByteArray.size t_Key : Int) != (32 : Int)) (kk false) (
  cond (!t_Has) (
   cond (t_Size == (0 : Int)) (cond (sEq t_Log ByteArray.empty) (kk (sEq t_Map ByteArray.empty)) (kk false)) (kk false)) (
   (gq102 t_Size t_Log t_Map).bind fun r =>
   kk r))
theorem gq101.F_nat {R S : Type} (g : R → Option S) (kk : Bool → Option R) (t_Key t_Has t_Size t_Log t_Map) : gq101.F (fun y0 => (kk y0).bind g) t_Key t_Has t_Size t_Log t_Map = (gq101.F kk t_Key t_Has t_Size t_Log t_Map).bind g := by
 simp only [gq101.F, grd_bind, cnd_bind, bnd_bind, non_bind]
def gq101 (t_Key : ByteArray) (t_Has : Bool) (t_Size : Int) (t_Log : ByteArray) (t_Map : ByteArray) : Option Bool := gq101.F (fun y0 => some y0) t_Key t_Has t_Size t_Log t_Map
def gq101.out : Bool → CRes := fun a => ⟨encL SV.enc [.one (.bool)] (a, ()), [encL SC.enc [] ()]⟩
def gq101.ps : List PS := [.val [none, none, none, none, none]]
def gq101.sA : List SA := [.v (.agg [.str, .bool, .int .i64, .str, .str])]
def gq101.fi : FI := FIs gq101.sA (Bool) (fun t => gq101 t.1.1 t.1.2.1 t.1.2.2.1 t.1.2.2.2.1 t.1.2.2.2.2.1) gq101.out gq101.ps
def gq101.E : Env := ⟨tt, lkF [(102, gq102.fi)], 31, 0, [], [], []⟩
theorem gq101.hok (hE : EOk Tryz.prog (gq101.E)) : HintOk Tryz.prog gq101.E (bodyOf Tryz.f101) (.a) := HintOk.n1 (Q := True) (by kernel_rfl) trivial
theorem gq101.hE : EOk Tryz.prog (gq101.E) := EOk.of ttOk (⟨gq102.fok, trivial⟩)
theorem gq101.fok : FOk Tryz.prog 101 gq101.fi :=
 fokS (E := gq101.E) (wy := ⟨[[none]], [[]], []⟩) (h := (fun gs => .a)) (G := fun t g => gq101.F (fun y0 => g y0) t.1.1 t.1.2.1 t.1.2.2.1 t.1.2.2.2.1 t.1.2.2.2.2.1) (by kernel_rfl) gq101.hE Tryz.func101 (by kernel_rfl) rfl (Nat.le_refl _) (fun t => HintOk.n1 (by kernel_rfl) (gq101.hok gq101.hE)) (fun t g => gq101.F_nat g (fun y0 => some y0) _ _ _ _ _) (fun t => by kernel_rfl)
def gq109.F {R : Type} (kk : Bool → Option R) (index : Int) : Option R :=
 (gq144 index (0 : Int) (3 : Int)).bind fun r =>
 kk r
theorem gq109.F_nat {R S : Type} (g : R → Option S) (kk : Bool → Option R) (index) : gq109.F (fun y0 => (kk y0).bind g) index = (gq109.F kk index).bind g := by
 simp only [gq109.F, grd_bind, cnd_bind, bnd_bind, non_bind]
def gq109 (index : Int) : Option Bool := gq109.F (fun y0 => some y0) index
def gq109.out : Bool → CRes := fun a => ⟨encL SV.enc [.one (.bool)] (a, ()), [encL SC.enc [] ()]⟩
def gq109.ps : List PS := [.val [none]]
def gq109.sA : List SA := [.v (.one (.int .i64))]
def gq109.fi : FI := FIs gq109.sA (Bool) (fun t => gq109 t.1) gq109.out gq109.ps
def gq109.E : Env := ⟨tt, lkF [(144, gq144.fi)], 5, 0, [], [], []⟩
theorem gq109.hok (hE : EOk Tryz.prog (gq109.E)) : HintOk Tryz.prog gq109.E (bodyOf Tryz.f109) (.a) := HintOk.n1 (Q := True) (by kernel_rfl) trivial
theorem gq109.hE : EOk Tryz.prog (gq109.E) := EOk.of ttOk (⟨gq144.fok, trivial⟩)
theorem gq109.fok : FOk Tryz.prog 109 gq109.fi :=
 fokS (E := gq109.E) (wy := ⟨[[none]], [[]], []⟩) (h := (fun gs => .a)) (G := fun t g => gq109.F (fun y0 => g y0) t.1) (by kernel_rfl) gq109.hE Tryz.func109 (by kernel_rfl) rfl (Nat.le_refl _) (fun t => HintOk.n1 (by kernel_rfl) (gq109.hok gq109.hE)) (fun t g => gq109.F_nat g (fun y0 => some y0) _) (fun t => by kernel_rfl)
def gq147.l1 {R : Type} (kke0 : Int → List Int → Option R) : Nat → ByteArray → Int → Int → List Int → Option R
 | 0, _, _, _, _ => none
 | n + 1, h, sum, i, out =>
  cond (decide (i < (8 : Int))) (
   grd (gIx i (ByteArray.size h)) <|
   grd (gNz (16 : Int)) <|
   grd (gIx i (ByteArray.size h)) <|
   grd (gNz (16 : Int)) <|
   grd (gRm (((List.length out) + (List.length [IntKind.wrap .i64 (IntKind.wrap .u8 (Int.tdiv (byteAt h i) (16 : Int))), IntKind.wrap .i64 (Int.tmod (byteAt h i) (16 : Int))])) * 8)) <|
   gq147.l1 kke0 n h sum (IntKind.wrap .i64 (i + (1 : Int))) (out ++ [IntKind.wrap .i64 (IntKind.wrap .u8 (Int.tdiv (byteAt h i) (16 : Int))), IntKind.wrap .i64 (Int.tmod (byteAt h i) (16 : Int))])) (kke0 sum out)
theorem gq147.l1_nat {R S : Type} (g : R → Option S) (kke0 : Int → List Int → Option R) : ∀ n h sum i out, gq147.l1 (fun y0 y1 => (kke0 y0 y1).bind g) n h sum i out = (gq147.l1 kke0 n h sum i out).bind g := by
 intro n
 induction n with
 | zero => intros; rfl
 | succ n ih => intros; simp only [gq147.l1, grd_bind, cnd_bind, bnd_bind, non_bind, ih]
def gq147.l2 {R : Type} (kke2 : Int → List Int → Option R) : Nat → Int → Int → List Int → Option R
 | 0, _, _, _ => none
 | n + 1, sum, i, out =>
  cond (decide (i < (16 : Int))) (
   grd (gIx i (List.length out)) <|
   gq147.l2 kke2 n (IntKind.wrap .i64 (sum + (IntKind.wrap .i64 ((15 : Int) - (rdE (.int .i64 : Kd) out (Int.toNat i)))))) (IntKind.wrap .i64 (i + (1 : Int))) out) (kke2 sum out)
theorem gq147.l2_nat {R S : Type} (g : R → Option S) (kke2 : Int → List Int → Option R) : ∀ n sum i out, gq147.l2 (fun y0 y1 => (kke2 y0 y1).bind g) n sum i out = (gq147.l2 kke2 n sum i out).bind g := by
 intro n
 induction n with
 | zero => intros; rfl
 | succ n ih => intros; simp only [gq147.l2, grd_bind, cnd_bind, bnd_bind, non_bind, ih]
def gq147.F {R : Type} (kk : List Int → Option R) (msg : ByteArray) : Option R :=
 (gq90 (bytesL msg)).bind fun r =>
 gq147.l1 (fun sum out =>
  gq147.l2 (fun sum1 out1 =>
   grd (gNz (16 : Int)) <|
   grd (gNz (16 : Int)) <|
   grd (gRm (((List.length out1) + (List.length [IntKind.wrap .i64 (Int.tdiv sum1 (16 : Int)), Int.tmod sum1 (16 : Int)])) * 8)) <|
   kk (out1 ++ [IntKind.wrap .i64 (Int.tdiv sum1 (16 : Int)), Int.tmod sum1 (16 : Int)])) fuel sum (0 : Int) out) fuel r (0 : Int) (0 : Int) ([] : List Int)
theorem gq147.F_nat {R S : Type} (g : R → Option S) (kk : List Int → Option R) (msg) : gq147.F (fun y0 => (kk y0).bind g) msg = (gq147.F kk msg).bind g := by
 simp only [gq147.F, grd_bind, cnd_bind, bnd_bind, non_bind, ← gq147.l1_nat, ← gq147.l2_nat]
def gq147 (msg : ByteArray) : Option (List Int) := gq147.F (fun y0 => some y0) msg
def gq147.out : (List Int) → CRes := fun a => ⟨encL SV.enc [.one (.own [] (.int .i64) true)] (a, ()), [encL SC.enc [] ()]⟩
def gq147.ps : List PS := [.val [none]]
def gq147.sA : List SA := [.v (.one (.str))]
def gq147.fi : FI := FIs gq147.sA (List Int) (fun t => gq147 t.1) gq147.out gq147.ps
def gq147.E : Env := ⟨tt, lkF [(90, gq90.fi)], 47, 0, [], [], []⟩
def gq147.sh1 : SK := ⟨[.v (.one (.str)), .v (.one (.slo 0)), .v (.one (.int .i64)), .v (.one (.int .i64))], [.arr (.int .i64) [] true]⟩
def gq147.sh1e0 : SK := ⟨[.v (.one (.slo 0)), .v (.one (.int .i64))], [.arr (.int .i64) [] true]⟩
def gq147.ko1 : Ex → List CastAt × List Nat
 | .nrm => ([], [])
 | .ret => ([], [])
 | .ext i => cond (Nat.beq i 0) ([], [4, 5]) ([], [])
def gq147.G1 (n : Nat) (R : Type) (t : gq147.sh1.T) (K : Ex → Kp → Option R) : Option R := gq147.l1 (fun y0 y1 => K (.ext 0) (SK.enc gq147.sh1e0 (((), y0, ()), (y1, ())))) n t.1.1 t.1.2.2.1 t.1.2.2.2.1 t.2.1
def gq147.S1 : Sum := ⟨([], [3, 4, 5, 6]), sumF gq147.sh1 (gq147.G1 fuel), gq147.ko1⟩
theorem gq147.ok1 (hE : EOk Tryz.prog (gq147.E)) : SumOk Tryz.prog gq147.E (cB (cR (cL (cR (cR (cR (cR (bodyOf Tryz.f147)))))))) (gq147.S1) := by
 have hh : HintOk Tryz.prog gq147.E (cB (cB (cR (cL (cR (cR (cR (cR (bodyOf Tryz.f147))))))))) (.a) := HintOk.n1 (Q := True) (by kernel_rfl) trivial
 have h := loopS (kin := ([], [3, 4, 5, 6])) (kout := gq147.ko1) (sh := gq147.sh1) (F := gq147.G1) (ops_ok (hE.gv _)) (by kernel_rfl) hh (fun _ _ _ => rfl) (fun n R t K => by kernel_rfl) fuel
 exact HintOk.n1 (c := (cB (cR (cL (cR (cR (cR (cR (bodyOf Tryz.f147))))))))) (h := .s (gq147.S1)) (P := Tryz.prog) (E := gq147.E) (by kernel_rfl) h
def gq147.sh2 : SK := ⟨[.v (.one (.slo 0)), .v (.one (.int .i64)), .v (.one (.int .i64))], [.arr (.int .i64) [] true]⟩
def gq147.sh2e2 : SK := ⟨[.v (.one (.slo 0)), .v (.one (.int .i64))], [.arr (.int .i64) [] true]⟩
def gq147.ko2 : Ex → List CastAt × List Nat
 | .nrm => ([], [])
 | .ret => ([], [])
 | .ext i => cond (Nat.beq i 2) ([], [4, 5]) ([], [])
def gq147.G2 (n : Nat) (R : Type) (t : gq147.sh2.T) (K : Ex → Kp → Option R) : Option R := gq147.l2 (fun y0 y1 => K (.ext 2) (SK.enc gq147.sh2e2 (((), y0, ()), (y1, ())))) n t.1.2.1 t.1.2.2.1 t.2.1
def gq147.S2 : Sum := ⟨([], [4, 5, 7]), sumF gq147.sh2 (gq147.G2 fuel), gq147.ko2⟩
theorem gq147.ok2 (hE : EOk Tryz.prog (gq147.E)) : SumOk Tryz.prog gq147.E (cB (cR (cL (cR (cR (cR (cR (cR (bodyOf Tryz.f147))))))))) (gq147.S2) := by
 have hh : HintOk Tryz.prog gq147.E (cB (cB (cR (cL (cR (cR (cR (cR (cR (bodyOf Tryz.f147)))))))))) (.a) := HintOk.n1 (Q := True) (by kernel_rfl) trivial
 have h := loopS (kin := ([], [4, 5, 7])) (kout := gq147.ko2) (sh := gq147.sh2) (F := gq147.G2) (ops_ok (hE.gv _)) (by kernel_rfl) hh (fun _ _ _ => rfl) (fun n R t K => by kernel_rfl) fuel
 exact HintOk.n1 (c := (cB (cR (cL (cR (cR (cR (cR (cR (bodyOf Tryz.f147)))))))))) (h := .s (gq147.S2)) (P := Tryz.prog) (E := gq147.E) (by kernel_rfl) h
theorem gq147.hok (hE : EOk Tryz.prog (gq147.E)) : HintOk Tryz.prog gq147.E (bodyOf Tryz.f147) (.n (.a) (.n (.a) (.n (.a) (.n (.a) (.n (.n (.a) (.b (.s (gq147.S1)))) (.n (.n (.a) (.b (.s (gq147.S2)))) (.a))))))) := HintOk.n1 (Q := (True) ∧ ((True) ∧ ((True) ∧ ((True) ∧ (((True) ∧ (SumOk Tryz.prog gq147.E (cB (cR (cL (cR (cR (cR (cR (bodyOf Tryz.f147)))))))) (gq147.S1))) ∧ (((True) ∧ (SumOk Tryz.prog gq147.E (cB (cR (cL (cR (cR (cR (cR (cR (bodyOf Tryz.f147))))))))) (gq147.S2))) ∧ (True))))))) (by kernel_rfl) ⟨trivial, ⟨trivial, ⟨trivial, ⟨trivial, ⟨⟨trivial, (gq147.ok1 hE)⟩, ⟨⟨trivial, (gq147.ok2 hE)⟩, trivial⟩⟩⟩⟩⟩⟩
theorem gq147.hE : EOk Tryz.prog (gq147.E) := EOk.of ttOk (⟨gq90.fok, trivial⟩)
theorem gq147.fok : FOk Tryz.prog 147 gq147.fi :=
 fokS (E := gq147.E) (wy := ⟨[[some ((.int .i64), true)]], [[]], []⟩) (h := (fun gs => .n (.a) (.n (.a) (.n (.a) (.n (.a) (.n (.n (.a) (.b (.s (gq147.S1)))) (.n (.n (.a) (.b (.s (gq147.S2)))) (.a)))))))) (G := fun t g => gq147.F (fun y0 => g y0) t.1) (by kernel_rfl) gq147.hE Tryz.func147 (by kernel_rfl) rfl (Nat.le_refl _) (fun t => HintOk.n1 (by kernel_rfl) (gq147.hok gq147.hE)) (fun t g => gq147.F_nat g (fun y0 => some y0) _) (fun t => by kernel_rfl)
def gq246.F {R : Type} (rc : ByteArray → Int → Int → List ByteArray → Option (ByteArray × Bool)) (kk : ByteArray → Bool → Option R) (leaf : ByteArray) (at_ : Int) (size : Int) (proof : List ByteArray) : Option R :=
 cond (size == (1 : Int)) (kk leaf ((List.length proof : Int) == (0 : Int))) (
  cond ((List.length proof : Int) == (0 : Int)) (kk ByteArray.empty false) (
   (gq173 size).bind fun r =>
   grd (gIx (IntKind.wrap .i64 ((List.length proof : Int) - (1 : Int))) (List.length proof)) <|
   grd (gSl (0 : Int) (IntKind.wrap .i64 ((List.length proof : Int) - (1 : Int))) (List.length proof)) <|
   cond (decide (at_ < r)) (
    (rc leaf at_ r (sub proof (0 : Int) (IntKind.wrap .i64 ((List.length proof : Int) - (1 : Int))))).bind fun r1 =>
    (gq174 r1.1 (rdE (.str : Kd) proof (Int.toNat (IntKind.wrap .i64 ((List.length proof : Int) - (1 : Int)))))).bind fun r2 =>
    kk r2 r1.2) (
    (rc leaf (IntKind.wrap .i64 (at_ - r)) (IntKind.wrap .i64 (size - r)) (sub proof (0 : Int) (IntKind.wrap .i64 ((List.length proof : Int) - (1 : Int))))).bind fun r3 =>
    (gq174 (rdE (.str : Kd) proof (Int.toNat (IntKind.wrap .i64 ((List.length proof : Int) - (1 : Int))))) r3.1).bind fun r4 =>
    kk r4 r3.2)))
theorem gq246.F_nat {R S : Type} (g : R → Option S) (rc : ByteArray → Int → Int → List ByteArray → Option (ByteArray × Bool)) (kk : ByteArray → Bool → Option R) (leaf at_ size proof) : gq246.F rc (fun y0 y1 => (kk y0 y1).bind g) leaf at_ size proof = (gq246.F rc kk leaf at_ size proof).bind g := by
 simp only [gq246.F, grd_bind, cnd_bind, bnd_bind, non_bind]
def gq246 : Nat → ByteArray → Int → Int → List ByteArray → Option (ByteArray × Bool)
 | 0, _, _, _, _ => none
 | fu + 1, leaf, at_, size, proof => gq246.F (gq246 fu) (fun y0 y1 => some (y0, y1)) leaf at_ size proof
theorem gq246_nat {S : Type} (fu : Nat) (g : (ByteArray × Bool) → Option S) (leaf : ByteArray) (at_ : Int) (size : Int) (proof : List ByteArray) : gq246.F (gq246 fu) (fun y0 y1 => g (y0, y1)) leaf at_ size proof = (gq246 (fu + 1) leaf at_ size proof).bind g := gq246.F_nat g (gq246 fu) (fun y0 y1 => some (y0, y1)) leaf at_ size proof
def gq246.out : (ByteArray × Bool) → CRes := fun a => ⟨encL SV.enc [.one (.str), .one (.bool)] (a.1, a.2, ()), [encL SC.enc [] (), encL SC.enc [] (), encL SC.enc [] (), encL SC.enc [] ()]⟩
def gq246.ps : List PS := [.val [none], .val [none], .val [none], .val [some (.str, false)]]
def gq246.sA : List SA := [.v (.one (.str)), .v (.one (.int .i64)), .v (.one (.int .i64)), .v (.one (.slv [] .str))]
def gq246.fi (fu : Nat) : FI := FIs gq246.sA (ByteArray × Bool) (fun t => gq246 fu t.1 t.2.1 t.2.2.1 t.2.2.2.1) gq246.out gq246.ps
def gq246.E (fu : Nat) : Env := ⟨tt, lkF [(173, gq173.fi), (174, gq174.fi), (246, gq246.fi fu)], 70, 0, [], [], []⟩
theorem gq246.hok (fu : Nat) (hE : EOk Tryz.prog (gq246.E fu)) : HintOk Tryz.prog (gq246.E fu) (bodyOf Tryz.f246) (.a) := HintOk.n1 (Q := True) (by kernel_rfl) trivial
theorem gq246.fok0 : FOk Tryz.prog 246 (gq246.fi 0) := FOk.zero ⟨_, _, Tryz.func246, by kernel_rfl, rfl⟩ (fun _ => rfl)
theorem gq246.fok1 (fu : Nat) (ih : FOk Tryz.prog 246 (gq246.fi fu)) : FOk Tryz.prog 246 (gq246.fi (fu + 1)) := by
 have hE : EOk Tryz.prog (gq246.E fu) := EOk.of ttOk (⟨gq173.fok, ⟨gq174.fok, ⟨ih, trivial⟩⟩⟩)
 exact fokS (E := gq246.E fu) (wy := ⟨[[none], [none]], [[], [], [], []], []⟩) (h := (fun gs => .a)) (G := fun t g => gq246.F (gq246 fu) (fun y0 y1 => g (y0, y1)) t.1 t.2.1 t.2.2.1 t.2.2.2.1) (by kernel_rfl) hE Tryz.func246 (by kernel_rfl) rfl (Nat.le_refl _) (fun t => HintOk.n1 (by kernel_rfl) (gq246.hok fu hE)) (fun t g => gq246_nat fu g t.1 t.2.1 t.2.2.1 t.2.2.2.1) (fun t => by kernel_rfl)
theorem gq246.fok (fu : Nat) : FOk Tryz.prog 246 (gq246.fi fu) := Nat.rec gq246.fok0 gq246.fok1 fu
def gq185.l1 {R : Type} (kke0 : Int → List ByteArray → List ByteArray → List ByteArray → Option R) : Nat → Int → Int → List ByteArray → List ByteArray → List ByteArray → List Int → Option R
 | 0, _, _, _, _, _, _ => none
 | n + 1, c, x, x1, x2, ends, digits =>
  cond (decide (c < (18 : Int))) (
   grd (gIx c (List.length x1)) <|
   grd (gIx c (List.length digits)) <|
   grd (gIx c (List.length digits)) <|
   (gq148 (rdE (.str : Kd) x1 (Int.toNat c)) (rdE (.int .i64 : Kd) digits (Int.toNat c)) (IntKind.wrap .i64 ((15 : Int) - (rdE (.int .i64 : Kd) digits (Int.toNat c))))).bind fun r =>
   grd (gRm (((List.length ends) + (List.length [r])) * 16)) <|
   gq185.l1 kke0 n (IntKind.wrap .i64 (c + (1 : Int))) x x1 x2 (ends ++ [r]) digits) (kke0 x x1 x2 ends)
theorem gq185.l1_nat {R S : Type} (g : R → Option S) (kke0 : Int → List ByteArray → List ByteArray → List ByteArray → Option R) : ∀ n c x x1 x2 ends digits, gq185.l1 (fun y0 y1 y2 y3 => (kke0 y0 y1 y2 y3).bind g) n c x x1 x2 ends digits = (gq185.l1 kke0 n c x x1 x2 ends digits).bind g := by
 intro n
 induction n with
 | zero => intros; rfl
 | succ n ih => intros; simp only [gq185.l1, grd_bind, cnd_bind, bnd_bind, non_bind, ih]
def gq185.F {R : Type} (kk : ByteArray → Bool → Option R) (msg : ByteArray) (x_Index : Int) (x_Parts : List ByteArray) (x_Path : List ByteArray) : Option R :=
 (gq147 msg).bind fun r =>
 gq185.l1 (fun x x1 x2 ends =>
  (gq241 ends).bind fun r1 =>
  (gq246 fuel r1 x (4 : Int) x2).bind fun r2 =>
  kk r2.1 r2.2) fuel (0 : Int) x_Index x_Parts x_Path ([] : List ByteArray) r
theorem gq185.F_nat {R S : Type} (g : R → Option S) (kk : ByteArray → Bool → Option R) (msg x_Index x_Parts x_Path) : gq185.F (fun y0 y1 => (kk y0 y1).bind g) msg x_Index x_Parts x_Path = (gq185.F kk msg x_Index x_Parts x_Path).bind g := by
 simp only [gq185.F, grd_bind, cnd_bind, bnd_bind, non_bind, ← gq185.l1_nat]
def gq185 (msg : ByteArray) (x_Index : Int) (x_Parts : List ByteArray) (x_Path : List ByteArray) : Option (ByteArray × Bool) := gq185.F (fun y0 y1 => some (y0, y1)) msg x_Index x_Parts x_Path
def gq185.out : (ByteArray × Bool) → CRes := fun a => ⟨encL SV.enc [.one (.str), .one (.bool)] (a.1, a.2, ()), [encL SC.enc [] (), encL SC.enc [] ()]⟩
def gq185.ps : List PS := [.val [none], .val [none, some (.str, false), some (.str, false)]]
def gq185.sA : List SA := [.v (.one (.str)), .v (.agg [.int .i64, .slv [] .str, .slv [] .str])]
def gq185.fi : FI := FIs gq185.sA (ByteArray × Bool) (fun t => gq185 t.1 t.2.1.1 t.2.1.2.1 t.2.1.2.2.1) gq185.out gq185.ps
def gq185.E : Env := ⟨tt, lkF [(147, gq147.fi), (148, gq148.fi), (241, gq241.fi), (246, gq246.fi fuel)], 43, 0, [], [], []⟩
def gq185.sh1 : SK := ⟨[.v (.one (.bptr 0 0)), .v (.one (.slo 1)), .v (.one (.slo 2)), .v (.one (.int .i64))], [.box [.int .i64, .slv [2] .str, .slv [2] .str], .arr .str [] true, .arr (.int .i64) [] true]⟩
def gq185.sh1e0 : SK := ⟨[.v (.one (.bptr 0 0)), .v (.one (.slo 1))], [.box [.int .i64, .slv [2] .str, .slv [2] .str], .arr .str [] true]⟩
def gq185.ko1 : Ex → List CastAt × List Nat
 | .nrm => ([], [])
 | .ret => ([], [])
 | .ext i => cond (Nat.beq i 0) ([], [3, 6]) ([], [])
def gq185.G1 (n : Nat) (R : Type) (t : gq185.sh1.T) (K : Ex → Kp → Option R) : Option R := gq185.l1 (fun y0 y1 y2 y3 => K (.ext 0) (SK.enc gq185.sh1e0 (((), (), ()), ((y0, y1, y2, ()), y3, ())))) n t.1.2.2.2.1 t.2.1.1 t.2.1.2.1 t.2.1.2.2.1 t.2.2.1 t.2.2.2.1
def gq185.S1 : Sum := ⟨([], [3, 6, 7, 8]), sumF gq185.sh1 (gq185.G1 fuel), gq185.ko1⟩
theorem gq185.ok1 (hE : EOk Tryz.prog (gq185.E)) : SumOk Tryz.prog gq185.E (cB (cR (cL (cR (cR (cR (bodyOf Tryz.f185))))))) (gq185.S1) := by
 have hh : HintOk Tryz.prog gq185.E (cB (cB (cR (cL (cR (cR (cR (bodyOf Tryz.f185)))))))) (.a) := HintOk.n1 (Q := True) (by kernel_rfl) trivial
 have h := loopS (kin := ([], [3, 6, 7, 8])) (kout := gq185.ko1) (sh := gq185.sh1) (F := gq185.G1) (ops_ok (hE.gv _)) (by kernel_rfl) hh (fun _ _ _ => rfl) (fun n R t K => by kernel_rfl) fuel
 exact HintOk.n1 (c := (cB (cR (cL (cR (cR (cR (bodyOf Tryz.f185)))))))) (h := .s (gq185.S1)) (P := Tryz.prog) (E := gq185.E) (by kernel_rfl) h
theorem gq185.hok (hE : EOk Tryz.prog (gq185.E)) : HintOk Tryz.prog gq185.E (bodyOf Tryz.f185) (.n (.a) (.n (.a) (.n (.a) (.n (.n (.a) (.b (.s (gq185.S1)))) (.a))))) := HintOk.n1 (Q := (True) ∧ ((True) ∧ ((True) ∧ (((True) ∧ (SumOk Tryz.prog gq185.E (cB (cR (cL (cR (cR (cR (bodyOf Tryz.f185))))))) (gq185.S1))) ∧ (True))))) (by kernel_rfl) ⟨trivial, ⟨trivial, ⟨trivial, ⟨⟨trivial, (gq185.ok1 hE)⟩, trivial⟩⟩⟩⟩
theorem gq185.hE : EOk Tryz.prog (gq185.E) := EOk.of ttOk (⟨gq147.fok, ⟨gq148.fok, ⟨gq241.fok, ⟨gq246.fok fuel, trivial⟩⟩⟩⟩)
theorem gq185.fok : FOk Tryz.prog 185 gq185.fi :=
 fokS (E := gq185.E) (wy := ⟨[[none], [none]], [[], []], []⟩) (h := (fun gs => .n (.a) (.n (.a) (.n (.a) (.n (.n (.a) (.b (.s (gq185.S1)))) (.a)))))) (G := fun t g => gq185.F (fun y0 y1 => g (y0, y1)) t.1 t.2.1.1 t.2.1.2.1 t.2.1.2.2.1) (by kernel_rfl) gq185.hE Tryz.func185 (by kernel_rfl) rfl (Nat.le_refl _) (fun t => HintOk.n1 (by kernel_rfl) (gq185.hok gq185.hE)) (fun t g => gq185.F_nat g (fun y0 y1 => some (y0, y1)) _ _ _ _) (fun t => by kernel_rfl)
def gq104.F {R : Type} (kk : Int → Option R) (root : ByteArray) (msg : ByteArray) (x_Index : Int) (x_Parts : List ByteArray) (x_Path : List ByteArray) : Option R :=
 cond (decide ((ByteArray.size root : Int) > (65536 : Int))) (kk (2 : Int)) (
  cond (decide ((ByteArray.size msg : Int) > (65536 : Int))) (kk (2 : Int)) (
   cond (decide ((List.length x_Parts : Int) > (4096 : Int))) (kk (2 : Int)) (
    cond (decide ((List.length x_Path : Int) > (4096 : Int))) (kk (2 : Int)) (
     cond ((ByteArray.size root : Int) != (32 : Int)) (kk (1 : Int)) (
      (gq103 x_Parts).bind fun r =>
      cond (!r) (kk (1 : Int)) (
       (gq103 x_Path).bind fun r1 =>
       cond (!r1) (kk (1 : Int)) (
        (gq109 x_Index).bind fun r2 =>
        cond (!r2) (kk (4 : Int)) (
         cond ((List.length x_Parts : Int) != (18 : Int)) (kk (4 : Int)) (
          (gq185 msg x_Index x_Parts x_Path).bind fun r3 =>
          cond (!r3.2) (kk (10 : Int)) (cond (!(sEq r3.1 root)) (kk (12 : Int)) (kk (0 : Int))))))))))))
theorem gq104.F_nat {R S : Type} (g : R → Option S) (kk : Int → Option R) (root msg x_Index x_Parts x_Path) : gq104.F (fun y0 => (kk y0).bind g) root msg x_Index x_Parts x_Path = (gq104.F kk root msg x_Index x_Parts x_Path).bind g := by
 simp only [gq104.F, grd_bind, cnd_bind, bnd_bind, non_bind]
def gq104 (root : ByteArray) (msg : ByteArray) (x_Index : Int) (x_Parts : List ByteArray) (x_Path : List ByteArray) : Option Int := gq104.F (fun y0 => some y0) root msg x_Index x_Parts x_Path
def gq104.out : Int → CRes := fun a => ⟨encL SV.enc [.one (.int .i64)] (a, ()), [encL SC.enc [] (), encL SC.enc [] (), encL SC.enc [] ()]⟩
def gq104.ps : List PS := [.val [none], .val [none], .val [none, some (.str, false), some (.str, false)]]
def gq104.sA : List SA := [.v (.one (.str)), .v (.one (.str)), .v (.agg [.int .i64, .slv [] .str, .slv [] .str])]
def gq104.fi : FI := FIs gq104.sA (Int) (fun t => gq104 t.1 t.2.1 t.2.2.1.1 t.2.2.1.2.1 t.2.2.1.2.2.1) gq104.out gq104.ps
def gq104.E : Env := ⟨tt, lkF [(103, gq103.fi), (109, gq109.fi), (185, gq185.fi)], 63, 0, [], [], []⟩
theorem gq104.hok (hE : EOk Tryz.prog (gq104.E)) : HintOk Tryz.prog gq104.E (bodyOf Tryz.f104) (.a) := HintOk.n1 (Q := True) (by kernel_rfl) trivial
theorem gq104.hE : EOk Tryz.prog (gq104.E) := EOk.of ttOk (⟨gq103.fok, ⟨gq109.fok, ⟨gq185.fok, trivial⟩⟩⟩)
theorem gq104.fok : FOk Tryz.prog 104 gq104.fi :=
 fokS (E := gq104.E) (wy := ⟨[[none]], [[], [], []], []⟩) (h := (fun gs => .a)) (G := fun t g => gq104.F (fun y0 => g y0) t.1 t.2.1 t.2.2.1.1 t.2.2.1.2.1 t.2.2.1.2.2.1) (by kernel_rfl) gq104.hE Tryz.func104 (by kernel_rfl) rfl (Nat.le_refl _) (fun t => HintOk.n1 (by kernel_rfl) (gq104.hok gq104.hE)) (fun t g => gq104.F_nat g (fun y0 => some y0) _ _ _ _ _) (fun t => by kernel_rfl)
def gq105.F {R : Type} (rc : Int → Int → ByteArray → List ByteArray → Bool → Option (ByteArray × ByteArray × Bool)) (kk : ByteArray → ByteArray → Bool → Option R) (old : Int) (size : Int) (root : ByteArray) (proof : List ByteArray) (whole : Bool) : Option R :=
 cond (old == size) (
  cond (whole) (kk root root ((List.length proof : Int) == (0 : Int))) (
   cond ((List.length proof : Int) != (1 : Int)) (kk ByteArray.empty ByteArray.empty false) (
    grd (gIx (0 : Int) (List.length proof)) <|
    grd (gIx (0 : Int) (List.length proof)) <|
    kk (rdE (.str : Kd) proof (Int.toNat (0 : Int))) (rdE (.str : Kd) proof (Int.toNat (0 : Int))) true))) (
  cond ((List.length proof : Int) == (0 : Int)) (kk ByteArray.empty ByteArray.empty false) (
   (gq173 size).bind fun r =>
   grd (gIx (IntKind.wrap .i64 ((List.length proof : Int) - (1 : Int))) (List.length proof)) <|
   grd (gSl (0 : Int) (IntKind.wrap .i64 ((List.length proof : Int) - (1 : Int))) (List.length proof)) <|
   cond (decide (old ≤ r)) (
    (rc old r root (sub proof (0 : Int) (IntKind.wrap .i64 ((List.length proof : Int) - (1 : Int)))) whole).bind fun r1 =>
    (gq174 r1.2.1 (rdE (.str : Kd) proof (Int.toNat (IntKind.wrap .i64 ((List.length proof : Int) - (1 : Int)))))).bind fun r2 =>
    kk r1.1 r2 r1.2.2) (
    (rc (IntKind.wrap .i64 (old - r)) (IntKind.wrap .i64 (size - r)) root (sub proof (0 : Int) (IntKind.wrap .i64 ((List.length proof : Int) - (1 : Int)))) false).bind fun r3 =>
    (gq174 (rdE (.str : Kd) proof (Int.toNat (IntKind.wrap .i64 ((List.length proof : Int) - (1 : Int))))) r3.1).bind fun r4 =>
    (gq174 (rdE (.str : Kd) proof (Int.toNat (IntKind.wrap .i64 ((List.length proof : Int) - (1 : Int))))) r3.2.1).bind fun r5 =>
    kk r4 r5 r3.2.2)))
theorem gq105.F_nat {R S : Type} (g : R → Option S) (rc : Int → Int → ByteArray → List ByteArray → Bool → Option (ByteArray × ByteArray × Bool)) (kk : ByteArray → ByteArray → Bool → Option R) (old size root proof whole) : gq105.F rc (fun y0 y1 y2 => (kk y0 y1 y2).bind g) old size root proof whole = (gq105.F rc kk old size root proof whole).bind g := by
 simp only [gq105.F, grd_bind, cnd_bind, bnd_bind, non_bind]
def gq105 : Nat → Int → Int → ByteArray → List ByteArray → Bool → Option (ByteArray × ByteArray × Bool)
 | 0, _, _, _, _, _ => none
 | fu + 1, old, size, root, proof, whole => gq105.F (gq105 fu) (fun y0 y1 y2 => some (y0, y1, y2)) old size root proof whole
theorem gq105_nat {S : Type} (fu : Nat) (g : (ByteArray × ByteArray × Bool) → Option S) (old : Int) (size : Int) (root : ByteArray) (proof : List ByteArray) (whole : Bool) : gq105.F (gq105 fu) (fun y0 y1 y2 => g (y0, y1, y2)) old size root proof whole = (gq105 (fu + 1) old size root proof whole).bind g := gq105.F_nat g (gq105 fu) (fun y0 y1 y2 => some (y0, y1, y2)) old size root proof whole
def gq105.out : (ByteArray × ByteArray × Bool) → CRes := fun a => ⟨encL SV.enc [.one (.str), .one (.str), .one (.bool)] (a.1, a.2.1, a.2.2, ()), [encL SC.enc [] (), encL SC.enc [] (), encL SC.enc [] (), encL SC.enc [] (), encL SC.enc [] ()]⟩
def gq105.ps : List PS := [.val [none], .val [none], .val [none], .val [some (.str, false)], .val [none]]
def gq105.sA : List SA := [.v (.one (.int .i64)), .v (.one (.int .i64)), .v (.one (.str)), .v (.one (.slv [] .str)), .v (.one (.bool))]
def gq105.fi (fu : Nat) : FI := FIs gq105.sA (ByteArray × ByteArray × Bool) (fun t => gq105 fu t.1 t.2.1 t.2.2.1 t.2.2.2.1 t.2.2.2.2.1) gq105.out gq105.ps
def gq105.E (fu : Nat) : Env := ⟨tt, lkF [(105, gq105.fi fu), (173, gq173.fi), (174, gq174.fi)], 94, 0, [], [], []⟩
theorem gq105.hok (fu : Nat) (hE : EOk Tryz.prog (gq105.E fu)) : HintOk Tryz.prog (gq105.E fu) (bodyOf Tryz.f105) (.a) := HintOk.n1 (Q := True) (by kernel_rfl) trivial
theorem gq105.fok0 : FOk Tryz.prog 105 (gq105.fi 0) := FOk.zero ⟨_, _, Tryz.func105, by kernel_rfl, rfl⟩ (fun _ => rfl)
theorem gq105.fok1 (fu : Nat) (ih : FOk Tryz.prog 105 (gq105.fi fu)) : FOk Tryz.prog 105 (gq105.fi (fu + 1)) := by
 have hE : EOk Tryz.prog (gq105.E fu) := EOk.of ttOk (⟨ih, ⟨gq173.fok, ⟨gq174.fok, trivial⟩⟩⟩)
 exact fokS (E := gq105.E fu) (wy := ⟨[[none], [none], [none]], [[], [], [], [], []], []⟩) (h := (fun gs => .a)) (G := fun t g => gq105.F (gq105 fu) (fun y0 y1 y2 => g (y0, y1, y2)) t.1 t.2.1 t.2.2.1 t.2.2.2.1 t.2.2.2.2.1) (by kernel_rfl) hE Tryz.func105 (by kernel_rfl) rfl (Nat.le_refl _) (fun t => HintOk.n1 (by kernel_rfl) (gq105.hok fu hE)) (fun t g => gq105_nat fu g t.1 t.2.1 t.2.2.1 t.2.2.2.1 t.2.2.2.2.1) (fun t => by kernel_rfl)
theorem gq105.fok (fu : Nat) : FOk Tryz.prog 105 (gq105.fi fu) := Nat.rec gq105.fok0 gq105.fok1 fu
def gq33.j1 {R : Type} (kkn : List ByteArray → Bool → ByteArray → Bool → Int → ByteArray → ByteArray → Int → ByteArray → ByteArray → ByteArray → Bool → Int → ByteArray → ByteArray → Option R) (proof : List ByteArray) (t_ : ByteArray) (t_1 : Bool) (t_2 : Int) (t_3 : ByteArray) (t_4 : ByteArray) (s : Int) (s1 : ByteArray) (s2 : ByteArray) (s3 : ByteArray) (b : Bool) (i : Int) (s4 : ByteArray) (s5 : ByteArray) : Option R :=
 cond (t_1) (kkn proof (decide (s < t_2)) t_ t_1 t_2 t_3 t_4 s s1 s2 s3 b i s4 s5) (kkn proof false t_ t_1 t_2 t_3 t_4 s s1 s2 s3 b i s4 s5)
theorem gq33.j1_nat {R S : Type} (g : R → Option S) (kkn : List ByteArray → Bool → ByteArray → Bool → Int → ByteArray → ByteArray → Int → ByteArray → ByteArray → ByteArray → Bool → Int → ByteArray → ByteArray → Option R) (proof t_ t_1 t_2 t_3 t_4 s s1 s2 s3 b i s4 s5) : gq33.j1 (fun y0 y1 y2 y3 y4 y5 y6 y7 y8 y9 y10 y11 y12 y13 y14 => (kkn y0 y1 y2 y3 y4 y5 y6 y7 y8 y9 y10 y11 y12 y13 y14).bind g) proof t_ t_1 t_2 t_3 t_4 s s1 s2 s3 b i s4 s5 = (gq33.j1 kkn proof t_ t_1 t_2 t_3 t_4 s s1 s2 s3 b i s4 s5).bind g := by
 simp only [gq33.j1, grd_bind, cnd_bind, bnd_bind, non_bind]
def gq33.j2 {R : Type} (kkn : List ByteArray → ByteArray → Bool → Int → ByteArray → ByteArray → Int → ByteArray → ByteArray → ByteArray → Bool → Int → ByteArray → ByteArray → Option R) (kkr : Int → ByteArray → Bool → Int → ByteArray → ByteArray → Option R) (proof : List ByteArray) (t_ : ByteArray) (t_1 : Bool) (t_2 : Int) (t_3 : ByteArray) (t_4 : ByteArray) (s : Int) (s1 : ByteArray) (s2 : ByteArray) (s3 : ByteArray) (b : Bool) (i : Int) (s4 : ByteArray) (s5 : ByteArray) : Option R :=
 gq33.j1 (fun proof1 b1 t_5 t_6 t_7 t_8 t_9 s6 s7 s8 s9 b2 i1 s10 s11 =>
  cond (b1) (kkr (16 : Int) t_5 t_6 t_7 t_8 t_9) (
   cond (t_6) (
    cond (s6 == t_7) (
     cond (!(sEq s7 t_8)) (kkr (19 : Int) t_5 t_6 t_7 t_8 t_9) (
      cond (!(sEq s8 t_9)) (kkr (19 : Int) t_5 t_6 t_7 t_8 t_9) (kkn proof1 t_5 t_6 t_7 t_8 t_9 s6 s7 s8 s9 b2 i1 s10 s11))) (kkn proof1 t_5 t_6 t_7 t_8 t_9 s6 s7 s8 s9 b2 i1 s10 s11)) (kkn proof1 t_5 t_6 t_7 t_8 t_9 s6 s7 s8 s9 b2 i1 s10 s11))) proof t_ t_1 t_2 t_3 t_4 s s1 s2 s3 b i s4 s5
theorem gq33.j2_nat {R S : Type} (g : R → Option S) (kkn : List ByteArray → ByteArray → Bool → Int → ByteArray → ByteArray → Int → ByteArray → ByteArray → ByteArray → Bool → Int → ByteArray → ByteArray → Option R) (kkr : Int → ByteArray → Bool → Int → ByteArray → ByteArray → Option R) (proof t_ t_1 t_2 t_3 t_4 s s1 s2 s3 b i s4 s5) : gq33.j2 (fun y0 y1 y2 y3 y4 y5 y6 y7 y8 y9 y10 y11 y12 y13 => (kkn y0 y1 y2 y3 y4 y5 y6 y7 y8 y9 y10 y11 y12 y13).bind g) (fun y0 y1 y2 y3 y4 y5 => (kkr y0 y1 y2 y3 y4 y5).bind g) proof t_ t_1 t_2 t_3 t_4 s s1 s2 s3 b i s4 s5 = (gq33.j2 kkn kkr proof t_ t_1 t_2 t_3 t_4 s s1 s2 s3 b i s4 s5).bind g := by
 simp only [gq33.j2, grd_bind, cnd_bind, bnd_bind, non_bind, ← gq33.j1_nat]
def gq33.j3 {R : Type} (kkn : List ByteArray → Bool → ByteArray → Bool → Int → ByteArray → ByteArray → Int → ByteArray → ByteArray → ByteArray → Bool → Int → ByteArray → ByteArray → Option R) (proof : List ByteArray) (t_ : ByteArray) (t_1 : Bool) (t_2 : Int) (t_3 : ByteArray) (t_4 : ByteArray) (s : Int) (s1 : ByteArray) (s2 : ByteArray) (s3 : ByteArray) (b : Bool) (i : Int) (s4 : ByteArray) (s5 : ByteArray) : Option R :=
 cond (t_1) (
  cond (decide (t_2 > (0 : Int))) (kkn proof (decide (s > t_2)) t_ t_1 t_2 t_3 t_4 s s1 s2 s3 b i s4 s5) (kkn proof false t_ t_1 t_2 t_3 t_4 s s1 s2 s3 b i s4 s5)) (kkn proof false t_ t_1 t_2 t_3 t_4 s s1 s2 s3 b i s4 s5)
theorem gq33.j3_nat {R S : Type} (g : R → Option S) (kkn : List ByteArray → Bool → ByteArray → Bool → Int → ByteArray → ByteArray → Int → ByteArray → ByteArray → ByteArray → Bool → Int → ByteArray → ByteArray → Option R) (proof t_ t_1 t_2 t_3 t_4 s s1 s2 s3 b i s4 s5) : gq33.j3 (fun y0 y1 y2 y3 y4 y5 y6 y7 y8 y9 y10 y11 y12 y13 y14 => (kkn y0 y1 y2 y3 y4 y5 y6 y7 y8 y9 y10 y11 y12 y13 y14).bind g) proof t_ t_1 t_2 t_3 t_4 s s1 s2 s3 b i s4 s5 = (gq33.j3 kkn proof t_ t_1 t_2 t_3 t_4 s s1 s2 s3 b i s4 s5).bind g := by
 simp only [gq33.j3, grd_bind, cnd_bind, bnd_bind, non_bind]
def gq33.F {R : Type} (kk : ByteArray → Bool → Int → ByteArray → ByteArray → Int → Option R) (t_Key : ByteArray) (t_Has : Bool) (t_Size : Int) (t_Log : ByteArray) (t_Map : ByteArray) (s_Size : Int) (s_Log : ByteArray) (s_Map : ByteArray) (x_Index : Int) (x_Parts : List ByteArray) (x_Path : List ByteArray) (proof : List ByteArray) : Option R :=
 cond (decide ((List.length proof : Int) > (4096 : Int))) (kk ByteArray.empty false (0 : Int) ByteArray.empty ByteArray.empty (2 : Int)) (
  (gq101 t_Key t_Has t_Size t_Log t_Map).bind fun r =>
  cond (!r) (kk ByteArray.empty false (0 : Int) ByteArray.empty ByteArray.empty (1 : Int)) (
   (gq102 s_Size s_Log s_Map).bind fun r1 =>
   cond (!r1) (kk ByteArray.empty false (0 : Int) ByteArray.empty ByteArray.empty (1 : Int)) (
    (gq103 proof).bind fun r2 =>
    cond (!r2) (kk ByteArray.empty false (0 : Int) ByteArray.empty ByteArray.empty (1 : Int)) (
     (gq63 s_Size s_Log s_Map).bind fun r3 =>
     (gq104 t_Key r3 x_Index x_Parts x_Path).bind fun r4 =>
     cond (r4 != (0 : Int)) (kk t_Key t_Has t_Size t_Log t_Map r4) (
      gq33.j2 (fun proof1 t_ t_1 t_2 t_3 t_4 s s1 s2 s3 b i s4 s5 =>
       gq33.j3 (fun proof2 b1 t_5 t_6 t_7 t_8 t_9 s6 s7 s8 s9 b2 i1 s10 s11 =>
        cond (b1) (
         (gq105 fuel t_7 s6 t_8 proof2 true).bind fun r5 =>
         cond (!r5.2.2) (kk t_5 t_6 t_7 t_8 t_9 (10 : Int)) (
          cond (!(sEq r5.1 t_8)) (kk t_5 t_6 t_7 t_8 t_9 (19 : Int)) (
           cond (!(sEq r5.2.1 s7)) (kk t_5 t_6 t_7 t_8 t_9 (19 : Int)) (kk t_5 true s6 s7 s8 (0 : Int))))) (
         cond (decide ((List.length proof2 : Int) > (0 : Int))) (kk t_5 t_6 t_7 t_8 t_9 (10 : Int)) (kk t_5 true s6 s7 s8 (0 : Int)))) proof1 t_ t_1 t_2 t_3 t_4 s s1 s2 s3 b i s4 s5) (fun i2 s12 b3 i3 s13 s14 => kk s12 b3 i3 s13 s14 i2) proof t_Key t_Has t_Size t_Log t_Map s_Size s_Log s_Map ByteArray.empty false (0 : Int) ByteArray.empty ByteArray.empty)))))
theorem gq33.F_nat {R S : Type} (g : R → Option S) (kk : ByteArray → Bool → Int → ByteArray → ByteArray → Int → Option R) (t_Key t_Has t_Size t_Log t_Map s_Size s_Log s_Map x_Index x_Parts x_Path proof) : gq33.F (fun y0 y1 y2 y3 y4 y5 => (kk y0 y1 y2 y3 y4 y5).bind g) t_Key t_Has t_Size t_Log t_Map s_Size s_Log s_Map x_Index x_Parts x_Path proof = (gq33.F kk t_Key t_Has t_Size t_Log t_Map s_Size s_Log s_Map x_Index x_Parts x_Path proof).bind g := by
 simp only [gq33.F, grd_bind, cnd_bind, bnd_bind, non_bind, ← gq33.j2_nat, ← gq33.j3_nat]
def gq33 (t_Key : ByteArray) (t_Has : Bool) (t_Size : Int) (t_Log : ByteArray) (t_Map : ByteArray) (s_Size : Int) (s_Log : ByteArray) (s_Map : ByteArray) (x_Index : Int) (x_Parts : List ByteArray) (x_Path : List ByteArray) (proof : List ByteArray) : Option (ByteArray × Bool × Int × ByteArray × ByteArray × Int) := gq33.F (fun y0 y1 y2 y3 y4 y5 => some (y0, y1, y2, y3, y4, y5)) t_Key t_Has t_Size t_Log t_Map s_Size s_Log s_Map x_Index x_Parts x_Path proof
def gq33.out : (ByteArray × Bool × Int × ByteArray × ByteArray × Int) → CRes := fun a => ⟨encL SV.enc [.agg [.str, .bool, .int .i64, .str, .str], .one (.int .i64)] ((a.1, a.2.1, a.2.2.1, a.2.2.2.1, a.2.2.2.2.1, ()), a.2.2.2.2.2, ()), [encL SC.enc [] (), encL SC.enc [] (), encL SC.enc [] (), encL SC.enc [] ()]⟩
def gq33.ps : List PS := [.val [none, none, none, none, none], .val [none, none, none], .val [none, some (.str, false), some (.str, false)], .val [some (.str, false)]]
def gq33.sA : List SA := [.v (.agg [.str, .bool, .int .i64, .str, .str]), .v (.agg [.int .i64, .str, .str]), .v (.agg [.int .i64, .slv [] .str, .slv [] .str]), .v (.one (.slv [] .str))]
def gq33.fi : FI := FIs gq33.sA (ByteArray × Bool × Int × ByteArray × ByteArray × Int) (fun t => gq33 t.1.1 t.1.2.1 t.1.2.2.1 t.1.2.2.2.1 t.1.2.2.2.2.1 t.2.1.1 t.2.1.2.1 t.2.1.2.2.1 t.2.2.1.1 t.2.2.1.2.1 t.2.2.1.2.2.1 t.2.2.2.1) gq33.out gq33.ps
def gq33.E : Env := ⟨tt, lkF [(63, gq63.fi), (101, gq101.fi), (102, gq102.fi), (103, gq103.fi), (104, gq104.fi), (105, gq105.fi fuel)], 131, 0, [], [], []⟩
def gq33.sh1 : SK := ⟨[.v (.one (.slv [4] .str)), .v (.one (.bptr 0 0)), .v (.one (.bptr 1 0)), .v (.one (.bptr 2 0))], [.box [.str, .bool, .int .i64, .str, .str], .box [.int .i64, .str, .str], .box [.str, .bool, .int .i64, .str, .str]]⟩
def gq33.sh1n : SK := ⟨[.v (.one (.slv [4] .str)), .v (.one (.bptr 0 0)), .v (.one (.bptr 1 0)), .v (.one (.bptr 2 0)), .v (.one (.bool))], [.box [.str, .bool, .int .i64, .str, .str], .box [.int .i64, .str, .str], .box [.str, .bool, .int .i64, .str, .str]]⟩
def gq33.ko1 : Ex → List CastAt × List Nat
 | .nrm => ([], [3, 4, 5, 8, 42])
 | .ret => ([], [])
 | .ext i => ([], [])
def gq33.G1 (R : Type) (t : gq33.sh1.T) (K : Ex → Kp → Option R) : Option R := gq33.j1 (fun y0 y1 y2 y3 y4 y5 y6 y7 y8 y9 y10 y11 y12 y13 y14 => K .nrm (SK.enc gq33.sh1n ((y0, (), (), (), y1, ()), ((y2, y3, y4, y5, y6, ()), (y7, y8, y9, ()), (y10, y11, y12, y13, y14, ()), ())))) t.1.1 t.2.1.1 t.2.1.2.1 t.2.1.2.2.1 t.2.1.2.2.2.1 t.2.1.2.2.2.2.1 t.2.2.1.1 t.2.2.1.2.1 t.2.2.1.2.2.1 t.2.2.2.1.1 t.2.2.2.1.2.1 t.2.2.2.1.2.2.1 t.2.2.2.1.2.2.2.1 t.2.2.2.1.2.2.2.2.1
def gq33.S1 : Sum := ⟨([], [3, 4, 5, 8]), sumF gq33.sh1 (gq33.G1), gq33.ko1⟩
theorem gq33.ok1 (hE : EOk Tryz.prog (gq33.E)) : SumOk Tryz.prog gq33.E (cL (cB (cL (cR (cR (cR (cR (bodyOf Tryz.f33)))))))) (gq33.S1) := by
 have hh : HintOk Tryz.prog gq33.E (cL (cB (cL (cR (cR (cR (cR (bodyOf Tryz.f33)))))))) (.a) := HintOk.n1 (Q := True) (by kernel_rfl) trivial
 exact sumS (kin := ([], [3, 4, 5, 8])) (kout := gq33.ko1) (sh := gq33.sh1) (F := gq33.G1) (ops_ok (hE.gv _)) (by kernel_rfl) hh (fun R t K => by kernel_rfl)
def gq33.sh2 : SK := ⟨[.v (.one (.slv [4] .str)), .v (.one (.bptr 0 0)), .v (.one (.bptr 1 0)), .v (.one (.bptr 2 0))], [.box [.str, .bool, .int .i64, .str, .str], .box [.int .i64, .str, .str], .box [.str, .bool, .int .i64, .str, .str]]⟩
def gq33.sh2n : SK := ⟨[.v (.one (.slv [4] .str)), .v (.one (.bptr 0 0)), .v (.one (.bptr 1 0)), .v (.one (.bptr 2 0))], [.box [.str, .bool, .int .i64, .str, .str], .box [.int .i64, .str, .str], .box [.str, .bool, .int .i64, .str, .str]]⟩
def gq33.sh2r : SK := ⟨[.v (.one (.bptr 0 0)), .v (.one (.int .i64))], [.box [.str, .bool, .int .i64, .str, .str]]⟩
def gq33.ko2 : Ex → List CastAt × List Nat
 | .nrm => ([], [3, 4, 5, 8])
 | .ret => ([], [8, 9])
 | .ext i => ([], [])
def gq33.G2 (R : Type) (t : gq33.sh2.T) (K : Ex → Kp → Option R) : Option R := gq33.j2 (fun y0 y1 y2 y3 y4 y5 y6 y7 y8 y9 y10 y11 y12 y13 => K .nrm (SK.enc gq33.sh2n ((y0, (), (), (), ()), ((y1, y2, y3, y4, y5, ()), (y6, y7, y8, ()), (y9, y10, y11, y12, y13, ()), ())))) (fun y0 y1 y2 y3 y4 y5 => K .ret (SK.enc gq33.sh2r (((), y0, ()), ((y1, y2, y3, y4, y5, ()), ())))) t.1.1 t.2.1.1 t.2.1.2.1 t.2.1.2.2.1 t.2.1.2.2.2.1 t.2.1.2.2.2.2.1 t.2.2.1.1 t.2.2.1.2.1 t.2.2.1.2.2.1 t.2.2.2.1.1 t.2.2.2.1.2.1 t.2.2.2.1.2.2.1 t.2.2.2.1.2.2.2.1 t.2.2.2.1.2.2.2.2.1
def gq33.S2 : Sum := ⟨([], [3, 4, 5, 8]), sumF gq33.sh2 (gq33.G2), gq33.ko2⟩
theorem gq33.ok2 (hE : EOk Tryz.prog (gq33.E)) : SumOk Tryz.prog gq33.E (cL (cR (cR (cR (cR (bodyOf Tryz.f33)))))) (gq33.S2) := by
 have hh : HintOk Tryz.prog gq33.E (cL (cR (cR (cR (cR (bodyOf Tryz.f33)))))) (.b (.n (.s (gq33.S1)) (.a))) := HintOk.n1 (Q := (SumOk Tryz.prog gq33.E (cL (cB (cL (cR (cR (cR (cR (bodyOf Tryz.f33)))))))) (gq33.S1)) ∧ (True)) (by kernel_rfl) ⟨(gq33.ok1 hE), trivial⟩
 exact sumS (kin := ([], [3, 4, 5, 8])) (kout := gq33.ko2) (sh := gq33.sh2) (F := gq33.G2) (ops_ok (hE.gv _)) (by kernel_rfl) hh (fun R t K => by kernel_rfl)
def gq33.sh3 : SK := ⟨[.v (.one (.slv [4] .str)), .v (.one (.bptr 0 0)), .v (.one (.bptr 1 0)), .v (.one (.bptr 2 0))], [.box [.str, .bool, .int .i64, .str, .str], .box [.int .i64, .str, .str], .box [.str, .bool, .int .i64, .str, .str]]⟩
def gq33.sh3n : SK := ⟨[.v (.one (.slv [4] .str)), .v (.one (.bptr 0 0)), .v (.one (.bptr 1 0)), .v (.one (.bptr 2 0)), .v (.one (.bool))], [.box [.str, .bool, .int .i64, .str, .str], .box [.int .i64, .str, .str], .box [.str, .bool, .int .i64, .str, .str]]⟩
def gq33.ko3 : Ex → List CastAt × List Nat
 | .nrm => ([], [3, 4, 5, 8, 91])
 | .ret => ([], [])
 | .ext i => ([], [])
def gq33.G3 (R : Type) (t : gq33.sh3.T) (K : Ex → Kp → Option R) : Option R := gq33.j3 (fun y0 y1 y2 y3 y4 y5 y6 y7 y8 y9 y10 y11 y12 y13 y14 => K .nrm (SK.enc gq33.sh3n ((y0, (), (), (), y1, ()), ((y2, y3, y4, y5, y6, ()), (y7, y8, y9, ()), (y10, y11, y12, y13, y14, ()), ())))) t.1.1 t.2.1.1 t.2.1.2.1 t.2.1.2.2.1 t.2.1.2.2.2.1 t.2.1.2.2.2.2.1 t.2.2.1.1 t.2.2.1.2.1 t.2.2.1.2.2.1 t.2.2.2.1.1 t.2.2.2.1.2.1 t.2.2.2.1.2.2.1 t.2.2.2.1.2.2.2.1 t.2.2.2.1.2.2.2.2.1
def gq33.S3 : Sum := ⟨([], [3, 4, 5, 8]), sumF gq33.sh3 (gq33.G3), gq33.ko3⟩
theorem gq33.ok3 (hE : EOk Tryz.prog (gq33.E)) : SumOk Tryz.prog gq33.E (cL (cL (cR (cR (cR (cR (cR (bodyOf Tryz.f33)))))))) (gq33.S3) := by
 have hh : HintOk Tryz.prog gq33.E (cL (cL (cR (cR (cR (cR (cR (bodyOf Tryz.f33)))))))) (.a) := HintOk.n1 (Q := True) (by kernel_rfl) trivial
 exact sumS (kin := ([], [3, 4, 5, 8])) (kout := gq33.ko3) (sh := gq33.sh3) (F := gq33.G3) (ops_ok (hE.gv _)) (by kernel_rfl) hh (fun R t K => by kernel_rfl)
theorem gq33.hok (hE : EOk Tryz.prog (gq33.E)) : HintOk Tryz.prog gq33.E (bodyOf Tryz.f33) (.n (.a) (.n (.a) (.n (.a) (.n (.a) (.n (.s (gq33.S2)) (.n (.n (.s (gq33.S3)) (.a)) (.a))))))) := HintOk.n1 (Q := (True) ∧ ((True) ∧ ((True) ∧ ((True) ∧ ((SumOk Tryz.prog gq33.E (cL (cR (cR (cR (cR (bodyOf Tryz.f33)))))) (gq33.S2)) ∧ (((SumOk Tryz.prog gq33.E (cL (cL (cR (cR (cR (cR (cR (bodyOf Tryz.f33)))))))) (gq33.S3)) ∧ (True)) ∧ (True))))))) (by kernel_rfl) ⟨trivial, ⟨trivial, ⟨trivial, ⟨trivial, ⟨(gq33.ok2 hE), ⟨⟨(gq33.ok3 hE), trivial⟩, trivial⟩⟩⟩⟩⟩⟩
theorem gq33.hE : EOk Tryz.prog (gq33.E) := EOk.of ttOk (⟨gq63.fok, ⟨gq101.fok, ⟨gq102.fok, ⟨gq103.fok, ⟨gq104.fok, ⟨gq105.fok fuel, trivial⟩⟩⟩⟩⟩⟩)
theorem gq33.fok : FOk Tryz.prog 33 gq33.fi :=
 fokS (E := gq33.E) (wy := ⟨[[none, none, none, none, none], [none]], [[], [], [], []], []⟩) (h := (fun gs => .n (.a) (.n (.a) (.n (.a) (.n (.a) (.n (.s (gq33.S2)) (.n (.n (.s (gq33.S3)) (.a)) (.a)))))))) (G := fun t g => gq33.F (fun y0 y1 y2 y3 y4 y5 => g (y0, y1, y2, y3, y4, y5)) t.1.1 t.1.2.1 t.1.2.2.1 t.1.2.2.2.1 t.1.2.2.2.2.1 t.2.1.1 t.2.1.2.1 t.2.1.2.2.1 t.2.2.1.1 t.2.2.1.2.1 t.2.2.1.2.2.1 t.2.2.2.1) (by kernel_rfl) gq33.hE Tryz.func33 (by kernel_rfl) rfl (Nat.le_refl _) (fun t => HintOk.n1 (by kernel_rfl) (gq33.hok gq33.hE)) (fun t g => gq33.F_nat g (fun y0 y1 y2 y3 y4 y5 => some (y0, y1, y2, y3, y4, y5)) _ _ _ _ _ _ _ _ _ _ _ _) (fun t => by kernel_rfl)
theorem spl_ex : ∃ f : (ByteArray → ByteArray → List ByteArray) × (ByteArray → ByteArray → Bool), f.1 = (fun s c => Lib.splitB c 0 (Lib.countB s c) s) ∧ f.2 = (fun s c => decide (s.size < 4294967281) && decide (1 ≤ c.size)) := ⟨(_, _), rfl, rfl⟩
noncomputable def splS : ByteArray → ByteArray → List ByteArray := (Classical.choose spl_ex).1
noncomputable def gSpl : ByteArray → ByteArray → Bool := (Classical.choose spl_ex).2
theorem splS_eq (s c : ByteArray) : splS s c = Lib.splitB c 0 (Lib.countB s c) s := congrFun (congrFun (Classical.choose_spec spl_ex).1 s) c
theorem gSpl_eq (s c : ByteArray) : gSpl s c = (decide (s.size < 4294967281) && decide (1 ≤ c.size)) := congrFun (congrFun (Classical.choose_spec spl_ex).2 s) c
noncomputable def gq106.F {R : Type} (kk : List ByteArray → Option R) (s : ByteArray) (c : ByteArray) : Option R := grd (gSpl s c) <| kk (splS s c)
theorem gq106_ex : ∃ f : ByteArray → ByteArray → Option (List ByteArray), f = fun s n => gq106.F (fun y0 => some y0) s n := ⟨_, rfl⟩
noncomputable def gq106 : ByteArray → ByteArray → Option (List ByteArray) := Classical.choose gq106_ex
theorem gq106_eq (s c : ByteArray) : gq106 s c = gq106.F (fun y0 => some y0) s c := congrFun (congrFun (Classical.choose_spec gq106_ex) s) c
def gq106.out : (List ByteArray) → CRes := fun a => ⟨encL SV.enc [.one (.own [] .str true)] (a, ()), [encL SC.enc [] (), encL SC.enc [] ()]⟩
def gq106.ps : List PS := [.val [none], .val [none]]
def gq106.sA : List SA := [.v (.one (.str)), .v (.one (.str))]
noncomputable def gq106.fi : FI := FIs gq106.sA (List ByteArray) (fun t => gq106 t.1 t.2.1) gq106.out gq106.ps
theorem gq106.fok : FOk Tryz.prog 106 gq106.fi := by
 refine fok_rowT ⟨_, _, Tryz.func106, by kernel_rfl, rfl⟩ (by kernel_rfl) (fun a => by kernel_rfl) (fun t a h w hT hZ => ?_)
 obtain ⟨s, c, u⟩ := t
 have h' : grd (gSpl s c) (some (splS s c)) = some a := (gq106_eq s c).symm.trans h
 cases hg : gSpl s c with
 | false => rw [hg] at h'; cases h'
 | true =>
  rw [hg] at h'
  obtain rfl := Option.some.inj h'
  rw [gSpl_eq, Bool.and_eq_true, decide_eq_true_iff, decide_eq_true_iff] at hg
  obtain ⟨_, m, hm, hc⟩ := hT (0, [.i64]) (by simp [tabs]) 0 .i64 rfl
  obtain ⟨m, rfl⟩ := hc
  rw [splS_eq]
  refine (Tryz.strings_Split s c m w hg.1 hm hg.2).mono ?_
  rintro e w' ⟨rfl, rfl⟩
  rw [Lib.splitB_all c hg.2 0 _ s rfl]
  exact ⟨rfl, _, rfl⟩
section RN
open Go.Shelf Go.RowKit Go.Lib
def rnV0 (s : ByteArray) : Int × Bool := match Lib.atoiAll s.data.toList with
 | .ok v => if Lib.itoa v = s.data.toList ∧ (Lib.trimPrefix s.data.toList [45]).length ≤ 18 then (v, true) else (0, false)
 | _ => (0, false)
theorem tab_pow {P : Program} {w : World} (hn : P.globalNamed "internal/strconv.uint64pow10" = some 3) (hT : Tab (fun _ => True) w) (hZ : TabZ w) : Lib.TabIs P w "internal/strconv.uint64pow10" .u64 Lib.pow10Tab := by
 have hm : (3, Lib.pow10Tab.map TC.u64) ∈ tabs := by
  rw [show tabs = [(0, [.i64]), (1, [.err]), (2, [.err]), (3, Lib.pow10Tab.map TC.u64)] from rfl]
  simp
 obtain ⟨e, hs⟩ := hZ _ hm
 have hc := hT _ hm
 unfold World.shape? at hs
 unfold Lib.TabIs World.var?
 rw [hn, Option.bind_some]
 split at hs
 ·rename_i c e' fz hh
  simp only [Option.some.injEq, Prod.mk.injEq] at hs
  rw [hh]
  dsimp only
  congr 1
  apply Array.ext'
  apply List.ext_getElem?
  intro j
  rcases Nat.lt_or_ge j 20 with hj | hj
  ·have h20 : Lib.pow10Tab.length = 20 := rfl
   have hg : (Lib.pow10Tab.map TC.u64)[j]? = some (TC.u64 (Lib.pow10Tab.getD j 0)) := by
    rw [List.getElem?_map, List.getElem?_eq_getElem (by omega), List.getD_eq_getElem?_getD, List.getElem?_eq_getElem (by omega)]; rfl
   obtain ⟨_, v, hv, hv2⟩ := hc j _ hg
   have hv2 : v = .int .u64 _ := hv2
   subst hv2
   have : c[j]? = some (.int .u64 (Lib.pow10Tab.getD j 0)) := by
    simpa [World.cell?, hh] using hv
   rw [List.getElem?_map, List.getElem?_eq_getElem (by omega : j < Lib.pow10Tab.length)]
   rw [Array.getElem?_toList, this, List.getD_eq_getElem?_getD, List.getElem?_eq_getElem (by omega : j < Lib.pow10Tab.length)]; rfl
  ·have h1 : c.size = 20 := hs.2
   rw [Array.getElem?_toList, Array.getElem?_eq_none (by omega), List.getElem?_eq_none (by simpa [Lib.pow10Tab] using hj)]
 ·simp at hs
theorem tabIs_below {P : Program} {w w' : World} {n : String} {k : IntKind} {zs : List Int} (h : Lib.TabIs P w n k zs) (hb : Below w.heap.size w w') : Lib.TabIs P w' n k zs := by
 unfold Lib.TabIs World.var? at h ⊢
 cases hg : P.globalNamed n with
 | none => rw [hg] at h; simp at h
 | some g =>
  rw [hg, Option.bind_some] at h
  rw [Option.bind_some]
  rcases Nat.lt_or_ge g w.heap.size with h1 | h1
  ·rw [hb.block g h1]; exact h
  ·simp [Array.getElem?_eq_none h1] at h
set_option maxHeartbeats 4000000 in
set_option maxRecDepth 100000 in
theorem readNumber_calls (s : ByteArray) (hs : s.size ≤ 281474976710656) (w : World) (hT : Tab (fun _ => True) w) (hZ : TabZ w) :
  Calls Tryz.prog 107 #[.string s] w fun e w' => e = .returned (.tuple #[.int .i64 (rnV0 s).1, .bool (rnV0 s).2]) ∧ Below w.heap.size w w' := by
 have e25 : ∀ args w, (callFunc 187 args).run Tryz.prog w = .ok (.enter 187 args) w := enters_of Tryz.func187 (by kernel_rfl) rfl
 have e26 : ∀ args w, (callFunc 162 args).run Tryz.prog w = .ok (.enter 162 args) w := enters_of Tryz.func162 (by kernel_rfl) rfl
 have e27 : ∀ args w, (callFunc 188 args).run Tryz.prog w = .ok (.enter 188 args) w := enters_of Tryz.func188 (by kernel_rfl) rfl
 cases hA : Lib.atoiAll s.data.toList with
 | range =>
  obtain ⟨_, ev, hev, hc⟩ := hT (2, [.err]) (by simp [tabs]) 0 .err rfl
  go_enter Tryz.func107, Tryz.ntmps107
  go_wp2_with (go_at_fn 187; refine (Tryz.strconv_Atoi_range s hs hA ev _ hev hc).mono ?_; rintro e w' ⟨N, rfl, h1, h2, h3⟩)
  go_wp2
  go_ret2
  refine ⟨?_, h3⟩
  simp only [rnV0, hA]; rfl
 | ok v =>
  obtain ⟨v0, v1⟩ := Lib.atoiAll_bounds hA
  have htab := tab_pow (P := Tryz.prog) (by kernel_rfl) hT hZ
  have hbw : ∀ w1, (w1 = w ∨ ∃ t, w1 = Lib.bytesWorld w 5 t) → Below w.heap.size w w1 := by
   rintro w1 (rfl | ⟨t, rfl⟩)
   ·exact Below.refl _ _
   ·exact Lib.bytesWorld_below _ _ _
  by_cases hi : Lib.itoa v = s.data.toList
  ·have hi' : (⟨(Lib.itoa v).toArray⟩ : ByteArray) = s := by rw [hi]
   by_cases ht : (Lib.trimPrefix s.data.toList [45]).length ≤ 18
   ·go_enter Tryz.func107, Tryz.ntmps107
    go_wp2_with (go_at_fn 187; refine (Tryz.strconv_Atoi_ok s (by omega) v hA _).mono ?_; rintro e w1 ⟨rfl, hw⟩; have hb1 := hbw _ hw; clear hw)
    go_wp2_with (go_at_fn 162; refine (Tryz.strconv_Itoa v (by omega) (by omega) _ (tabIs_below htab hb1)).mono ?_; rintro e w2 ⟨rfl, k, os, rfl⟩; rw [hi'])
    have hb2 : Below w.heap.size w (Go.Sort.grow (w1.drewN k) os) := hb1.trans (below_grow _ _ hb1.size _ _)
    generalize Go.Sort.grow (w1.drewN k) os = w2 at hb2 ⊢
    go_wp2_with (go_at_fn 188; refine (Tryz.strings_TrimPrefix s ⟨#[45]⟩ _).mono ?_; rintro e w3 ⟨rfl, rfl⟩)
    go_wp2
    go_ret2
    refine ⟨?_, hb2⟩
    simp [rnV0, hA, hi, ht]
   ·go_enter Tryz.func107, Tryz.ntmps107
    go_wp2_with (go_at_fn 187; refine (Tryz.strconv_Atoi_ok s (by omega) v hA _).mono ?_; rintro e w1 ⟨rfl, hw⟩; have hb1 := hbw _ hw; clear hw)
    go_wp2_with (go_at_fn 162; refine (Tryz.strconv_Itoa v (by omega) (by omega) _ (tabIs_below htab hb1)).mono ?_; rintro e w2 ⟨rfl, k, os, rfl⟩; rw [hi'])
    have hb2 : Below w.heap.size w (Go.Sort.grow (w1.drewN k) os) := hb1.trans (below_grow _ _ hb1.size _ _)
    generalize Go.Sort.grow (w1.drewN k) os = w2 at hb2 ⊢
    go_wp2_with (go_at_fn 188; refine (Tryz.strings_TrimPrefix s ⟨#[45]⟩ _).mono ?_; rintro e w3 ⟨rfl, rfl⟩)
    go_wp2
    go_ret2
    refine ⟨?_, hb2⟩
    simp [rnV0, hA, hi, ht]
  ·have hi' : ¬ (⟨(Lib.itoa v).toArray⟩ : ByteArray) = s := fun h => hi (by rw [← h])
   have hi0 : ¬ Lib.itoa v = s.toList := fun h => hi (by rw [h]; first | rfl | simp [ByteArray.toList_eq] )
   go_enter Tryz.func107, Tryz.ntmps107
   go_wp2_with (go_at_fn 187; refine (Tryz.strconv_Atoi_ok s (by omega) v hA _).mono ?_; rintro e w1 ⟨rfl, hw⟩; have hb1 := hbw _ hw; clear hw)
   go_wp2_with (go_at_fn 162; refine (Tryz.strconv_Itoa v (by omega) (by omega) _ (tabIs_below htab hb1)).mono ?_; rintro e w2 ⟨rfl, k, os, rfl⟩)
   have hb2 : Below w.heap.size w (Go.Sort.grow (w1.drewN k) os) := hb1.trans (below_grow _ _ hb1.size _ _)
   generalize Go.Sort.grow (w1.drewN k) os = w2 at hb2 ⊢
   go_wp2
   go_ret2
   refine ⟨?_, hb2⟩
   simp [rnV0, hA, hi]
 | _ =>
  obtain ⟨_, ev, hev, hc⟩ := hT (1, [.err]) (by simp [tabs]) 0 .err rfl
  have c25 : Calls Tryz.prog 187 #[.string s] w fun e w' => ∃ (N : Nat) (t : TypeId), e = .returned (.tuple #[.int .i64 0, .iface t (.pointer (some ⟨N, 0, none⟩))]) ∧ Below w.heap.size w w' :=
   (Any.strconv_Atoi_syntax Tryz.laysC172 s hs hA ev w hev hc).mono fun e w' ⟨N, h1, h2, h3, h4⟩ => ⟨N, _, h1, h4⟩
  go_enter Tryz.func107, Tryz.ntmps107
  go_wp2_with (go_at_fn 187; refine c25.mono ?_; rintro e w' ⟨N, ty, rfl, h3⟩)
  go_wp2
  go_ret2
  refine ⟨?_, h3⟩
  simp only [rnV0, hA]; rfl
end RN
theorem rdn_ex : ∃ f : (ByteArray → Int) × (ByteArray → Bool) × (ByteArray → Bool), f.1 = (fun s => (rnV0 s).1) ∧ f.2.1 = (fun s => (rnV0 s).2) ∧ f.2.2 = (fun s => decide (s.size ≤ 281474976710656)) := ⟨(_, _, _), rfl, rfl, rfl⟩
noncomputable def rdnI : ByteArray → Int := (Classical.choose rdn_ex).1
noncomputable def rdnB : ByteArray → Bool := (Classical.choose rdn_ex).2.1
noncomputable def gRn : ByteArray → Bool := (Classical.choose rdn_ex).2.2
theorem rdnI_eq (s : ByteArray) : rdnI s = (rnV0 s).1 := congrFun (Classical.choose_spec rdn_ex).1 s
theorem rdnB_eq (s : ByteArray) : rdnB s = (rnV0 s).2 := congrFun (Classical.choose_spec rdn_ex).2.1 s
theorem gRn_eq (s : ByteArray) : gRn s = decide (s.size ≤ 281474976710656) := congrFun (Classical.choose_spec rdn_ex).2.2 s
noncomputable def gq107.F {R : Type} (kk : Int → Bool → Option R) (s : ByteArray) : Option R := grd (gRn s) <| kk (rdnI s) (rdnB s)
theorem gq107_ex : ∃ f : ByteArray → Option (Int × Bool), f = fun s => gq107.F (fun y0 y1 => some (y0, y1)) s := ⟨_, rfl⟩
noncomputable def gq107 : ByteArray → Option (Int × Bool) := Classical.choose gq107_ex
theorem gq107_eq (s : ByteArray) : gq107 s = gq107.F (fun y0 y1 => some (y0, y1)) s := congrFun (Classical.choose_spec gq107_ex) s
def gq107.out : (Int × Bool) → CRes := fun a => ⟨encL SV.enc [.one (.int .i64), .one (.bool)] (a.1, a.2, ()), [encL SC.enc [] ()]⟩
def gq107.ps : List PS := [.val [none]]
def gq107.sA : List SA := [.v (.one (.str))]
noncomputable def gq107.fi : FI := FIs gq107.sA (Int × Bool) (fun t => gq107 t.1) gq107.out gq107.ps
theorem gq107.fok : FOk Tryz.prog 107 gq107.fi := by
 refine fok_extT ⟨_, _, Tryz.func107, by kernel_rfl, rfl⟩ (by kernel_rfl) (fun a => [.int .i64 a.1, .bool a.2]) (fun a => by kernel_rfl) (fun a => by kernel_rfl) (fun t a h w hT hZ => ?_)
 obtain ⟨s, u⟩ := t
 have h' : grd (gRn s) (some (rdnI s, rdnB s)) = some a := (gq107_eq s).symm.trans h
 cases hg : gRn s with
 | false => rw [hg] at h'; cases h'
 | true =>
  rw [hg] at h'
  obtain rfl := Option.some.inj h'
  rw [gRn_eq] at hg
  have := readNumber_calls s (of_decide_eq_true hg) w hT hZ
  rw [rdnI_eq, rdnB_eq]
  exact this
theorem trim_ex : ∃ f : (ByteArray → ByteArray → ByteArray) × (ByteArray → ByteArray → Bool), f.1 = (fun s c => ⟨(Lib.trimS s.data.toList c.data.toList).toArray⟩) ∧ f.2 = (fun s c => decide (s.size ≤ 9223372036854775807) && (decide (c.size < 4294967281) && c.data.toList.all (fun b => decide (b.toNat < 128)))) := ⟨(_, _), rfl, rfl⟩
noncomputable def trimS : ByteArray → ByteArray → ByteArray := (Classical.choose trim_ex).1
noncomputable def gTrim : ByteArray → ByteArray → Bool := (Classical.choose trim_ex).2
theorem trimS_eq (s c : ByteArray) : trimS s c = ⟨(Lib.trimS s.data.toList c.data.toList).toArray⟩ := congrFun (congrFun (Classical.choose_spec trim_ex).1 s) c
theorem gTrim_eq (s c : ByteArray) : gTrim s c = (decide (s.size ≤ 9223372036854775807) && (decide (c.size < 4294967281) && c.data.toList.all (fun b => decide (b.toNat < 128)))) := congrFun (congrFun (Classical.choose_spec trim_ex).2 s) c
noncomputable def gq189.F {R : Type} (kk : ByteArray → Option R) (s : ByteArray) (c : ByteArray) : Option R := grd (gTrim s c) <| kk (trimS s c)
theorem gq189_ex : ∃ f : ByteArray → ByteArray → Option ByteArray, f = fun s n => gq189.F (fun y0 => some y0) s n := ⟨_, rfl⟩
noncomputable def gq189 : ByteArray → ByteArray → Option ByteArray := Classical.choose gq189_ex
theorem gq189_eq (s c : ByteArray) : gq189 s c = gq189.F (fun y0 => some y0) s c := congrFun (congrFun (Classical.choose_spec gq189_ex) s) c
def gq189.out : (ByteArray) → CRes := fun a => ⟨encL SV.enc [.one (.str)] (a, ()), [encL SC.enc [] (), encL SC.enc [] ()]⟩
def gq189.ps : List PS := [.val [none], .val [none]]
def gq189.sA : List SA := [.v (.one (.str)), .v (.one (.str))]
noncomputable def gq189.fi : FI := FIs gq189.sA (ByteArray) (fun t => gq189 t.1 t.2.1) gq189.out gq189.ps
theorem gq189.fok : FOk Tryz.prog 189 gq189.fi := by
 refine fok_ext ⟨_, _, Tryz.func189, by kernel_rfl, rfl⟩ (by kernel_rfl) (fun a => [.str a]) (fun a => by kernel_rfl) (fun a => by kernel_rfl) (fun t a h w => ?_)
 obtain ⟨s, c, u⟩ := t
 have h' : grd (gTrim s c) (some (trimS s c)) = some a := (gq189_eq s c).symm.trans h
 cases hg : gTrim s c with
 | false => rw [hg] at h'; cases h'
 | true =>
  rw [hg] at h'
  obtain rfl := Option.some.inj h'
  rw [gTrim_eq, Bool.and_eq_true, Bool.and_eq_true, decide_eq_true_iff, decide_eq_true_iff] at hg
  obtain ⟨h0, h1, h2⟩ := hg
  rw [trimS_eq]
  exact Any.strings_Trim_laid Tryz.lays160 (by kernel_rfl) s c w h0 h1 (ascii_of_all h2)
theorem ixb_ex : ∃ f : ByteArray → Int → Int, f = (fun s c => Lib.indexByte s.data.toList c.toNat.toUInt8) := ⟨_, rfl⟩
noncomputable def ixbS : ByteArray → Int → Int := Classical.choose ixb_ex
theorem ixbS_eq (s : ByteArray) (c : Int) : ixbS s c = Lib.indexByte s.data.toList c.toNat.toUInt8 := congrFun (congrFun (Classical.choose_spec ixb_ex) s) c
noncomputable def gq190.F {R : Type} (kk : Int → Option R) (s : ByteArray) (c : Int) : Option R := kk (ixbS s c)
theorem gq190_ex : ∃ f : ByteArray → Int → Option Int, f = fun a b => gq190.F (fun y0 => some y0) a b := ⟨_, rfl⟩
noncomputable def gq190 : ByteArray → Int → Option Int := Classical.choose gq190_ex
theorem gq190_eq (s : ByteArray) (c : Int) : gq190 s c = gq190.F (fun y0 => some y0) s c := congrFun (congrFun (Classical.choose_spec gq190_ex) s) c
def gq190.out : (Int) → CRes := fun a => ⟨encL SV.enc [.one (.int .i64)] (a, ()), [encL SC.enc [] (), encL SC.enc [] ()]⟩
def gq190.ps : List PS := [.val [none], .val [none]]
def gq190.sA : List SA := [.v (.one (.str)), .v (.one (.int .u8))]
noncomputable def gq190.fi : FI := FIs gq190.sA (Int) (fun t => gq190 t.1 t.2.1) gq190.out gq190.ps
theorem gq190.fok : FOk Tryz.prog 190 gq190.fi := by
 refine fok_ext ⟨_, _, Tryz.func190, by kernel_rfl, rfl⟩ (by kernel_rfl) (fun a => [.int .i64 a]) (fun a => by kernel_rfl) (fun a => by kernel_rfl) (fun t a h w => ?_)
 obtain ⟨s, c, u⟩ := t
 have h' : some (ixbS s c) = some a := (gq190_eq s c).symm.trans h
 obtain rfl := Option.some.inj h'
 rw [ixbS_eq]
 refine (Tryz.strings_IndexByte s c w).mono ?_
 rintro e w' ⟨rfl, rfl⟩
 exact ⟨rfl, RowKit.Below.refl _ _⟩
def gq108.l1 {R : Type} (kke0 : List Int → Option R) : Nat → ByteArray → Int → List Int → Option R
 | 0, _, _, _ => none
 | n + 1, t_, i, out =>
  cond (decide (i < (ByteArray.size t_ : Int))) (
   grd (gIx i (ByteArray.size t_)) <|
   (gq190 (⟨#[48, 49, 50, 51, 52, 53, 54, 55, 56, 57, 97, 98, 99, 100, 101, 102]⟩ : ByteArray) (byteAt t_ i)).bind fun r =>
   grd (gSh (4 : Int)) <|
   grd (gIx (IntKind.wrap .i64 (i + (1 : Int))) (ByteArray.size t_)) <|
   (gq190 (⟨#[48, 49, 50, 51, 52, 53, 54, 55, 56, 57, 97, 98, 99, 100, 101, 102]⟩ : ByteArray) (byteAt t_ (IntKind.wrap .i64 (i + (1 : Int))))).bind fun r1 =>
   grd (gRm (((List.length out) + (List.length [IntKind.wrap .u8 (IntKind.wrap .i64 ((iShl .i64 r (4 : Int)) + r1))])) * 1)) <|
   gq108.l1 kke0 n t_ (IntKind.wrap .i64 (i + (2 : Int))) (out ++ [IntKind.wrap .u8 (IntKind.wrap .i64 ((iShl .i64 r (4 : Int)) + r1))])) (kke0 out)
theorem gq108.l1_nat {R S : Type} (g : R → Option S) (kke0 : List Int → Option R) : ∀ n t_ i out, gq108.l1 (fun y0 => (kke0 y0).bind g) n t_ i out = (gq108.l1 kke0 n t_ i out).bind g := by
 intro n
 induction n with
 | zero => intros; rfl
 | succ n ih => intros; simp only [gq108.l1, grd_bind, cnd_bind, bnd_bind, non_bind, ih]
def gq108.F {R : Type} (kk : ByteArray → Bool → Option R) (t_ : ByteArray) : Option R :=
 cond ((ByteArray.size t_ : Int) != (64 : Int)) (kk ByteArray.empty false) (
  (gq189 t_ (⟨#[48, 49, 50, 51, 52, 53, 54, 55, 56, 57, 97, 98, 99, 100, 101, 102]⟩ : ByteArray)).bind fun r =>
  cond (!(sEq r ByteArray.empty)) (kk ByteArray.empty false) (gq108.l1 (fun out => kk (strL out) true) fuel t_ (0 : Int) ([] : List Int)))
theorem gq108.F_nat {R S : Type} (g : R → Option S) (kk : ByteArray → Bool → Option R) (t_) : gq108.F (fun y0 y1 => (kk y0 y1).bind g) t_ = (gq108.F kk t_).bind g := by
 simp only [gq108.F, grd_bind, cnd_bind, bnd_bind, non_bind, ← gq108.l1_nat]
def gq108 (t_ : ByteArray) : Option (ByteArray × Bool) := gq108.F (fun y0 y1 => some (y0, y1)) t_
def gq108.out : (ByteArray × Bool) → CRes := fun a => ⟨encL SV.enc [.one (.str), .one (.bool)] (a.1, a.2, ()), [encL SC.enc [] ()]⟩
def gq108.ps : List PS := [.val [none]]
def gq108.sA : List SA := [.v (.one (.str))]
def gq108.fi : FI := FIs gq108.sA (ByteArray × Bool) (fun t => gq108 t.1) gq108.out gq108.ps
def gq108.E : Env := ⟨tt, lkF [(189, gq189.fi), (190, gq190.fi)], 38, 0, [], [], []⟩
def gq108.sh1 : SK := ⟨[.v (.one (.str)), .v (.one (.slo 0)), .v (.one (.int .i64))], [.arr (.int .u8) [] true]⟩
def gq108.sh1e0 : SK := ⟨[.v (.one (.slo 0))], [.arr (.int .u8) [] true]⟩
def gq108.ko1 : Ex → List CastAt × List Nat
 | .nrm => ([], [])
 | .ret => ([], [])
 | .ext i => cond (Nat.beq i 0) ([], [4]) ([], [])
def gq108.G1 (n : Nat) (R : Type) (t : gq108.sh1.T) (K : Ex → Kp → Option R) : Option R := gq108.l1 (fun y0 => K (.ext 0) (SK.enc gq108.sh1e0 (((), ()), (y0, ())))) n t.1.1 t.1.2.2.1 t.2.1
def gq108.S1 : Sum := ⟨([], [0, 4, 5]), sumF gq108.sh1 (gq108.G1 fuel), gq108.ko1⟩
theorem gq108.ok1 (hE : EOk Tryz.prog (gq108.E)) : SumOk Tryz.prog gq108.E (cB (cR (cL (cR (cR (cR (bodyOf Tryz.f108))))))) (gq108.S1) := by
 have hh : HintOk Tryz.prog gq108.E (cB (cB (cR (cL (cR (cR (cR (bodyOf Tryz.f108)))))))) (.a) := HintOk.n1 (Q := True) (by kernel_rfl) trivial
 have h := loopS (kin := ([], [0, 4, 5])) (kout := gq108.ko1) (sh := gq108.sh1) (F := gq108.G1) (ops_ok (hE.gv _)) (by kernel_rfl) hh (fun _ _ _ => rfl) (fun n R t K => by kernel_rfl) fuel
 exact HintOk.n1 (c := (cB (cR (cL (cR (cR (cR (bodyOf Tryz.f108)))))))) (h := .s (gq108.S1)) (P := Tryz.prog) (E := gq108.E) (by kernel_rfl) h
theorem gq108.hok (hE : EOk Tryz.prog (gq108.E)) : HintOk Tryz.prog gq108.E (bodyOf Tryz.f108) (.n (.a) (.n (.a) (.n (.a) (.n (.n (.a) (.b (.s (gq108.S1)))) (.a))))) := HintOk.n1 (Q := (True) ∧ ((True) ∧ ((True) ∧ (((True) ∧ (SumOk Tryz.prog gq108.E (cB (cR (cL (cR (cR (cR (bodyOf Tryz.f108))))))) (gq108.S1))) ∧ (True))))) (by kernel_rfl) ⟨trivial, ⟨trivial, ⟨trivial, ⟨⟨trivial, (gq108.ok1 hE)⟩, trivial⟩⟩⟩⟩
theorem gq108.hE : EOk Tryz.prog (gq108.E) := EOk.of ttOk (⟨gq189.fok, ⟨gq190.fok, trivial⟩⟩)
theorem gq108.fok : FOk Tryz.prog 108 gq108.fi :=
 fokS (E := gq108.E) (wy := ⟨[[none], [none]], [[]], []⟩) (h := (fun gs => .n (.a) (.n (.a) (.n (.a) (.n (.n (.a) (.b (.s (gq108.S1)))) (.a)))))) (G := fun t g => gq108.F (fun y0 y1 => g (y0, y1)) t.1) (by kernel_rfl) gq108.hE Tryz.func108 (by kernel_rfl) rfl (Nat.le_refl _) (fun t => HintOk.n1 (by kernel_rfl) (gq108.hok gq108.hE)) (fun t g => gq108.F_nat g (fun y0 y1 => some (y0, y1)) _) (fun t => by kernel_rfl)
def gq34.F {R : Type} (kk : Int → ByteArray → ByteArray → Int → Option R) (t_ : ByteArray) : Option R :=
 (gq96 [t_]).bind fun r =>
 cond (!r) (kk (0 : Int) ByteArray.empty ByteArray.empty (2 : Int)) (
  (gq106 t_ (⟨#[32]⟩ : ByteArray)).bind fun r1 =>
  cond ((List.length r1 : Int) != (6 : Int)) (kk (0 : Int) ByteArray.empty ByteArray.empty (3 : Int)) (
   grd (gIx (1 : Int) (List.length r1)) <|
   (gq107 (rdE (.str : Kd) r1 (Int.toNat (1 : Int)))).bind fun r2 =>
   grd (gIx (3 : Int) (List.length r1)) <|
   (gq108 (rdE (.str : Kd) r1 (Int.toNat (3 : Int)))).bind fun r3 =>
   grd (gIx (5 : Int) (List.length r1)) <|
   (gq108 (rdE (.str : Kd) r1 (Int.toNat (5 : Int)))).bind fun r4 =>
   (gq95 r2.1 r3.1 r4.1).bind fun r5 =>
   cond (!r5) (kk (0 : Int) ByteArray.empty ByteArray.empty (3 : Int)) (
    (gq73 r2.1 r3.1 r4.1).bind fun r6 =>
    cond (!(sEq r6 t_)) (kk (0 : Int) ByteArray.empty ByteArray.empty (3 : Int)) (kk r2.1 r3.1 r4.1 (0 : Int)))))
theorem gq34.F_nat {R S : Type} (g : R → Option S) (kk : Int → ByteArray → ByteArray → Int → Option R) (t_) : gq34.F (fun y0 y1 y2 y3 => (kk y0 y1 y2 y3).bind g) t_ = (gq34.F kk t_).bind g := by
 simp only [gq34.F, grd_bind, cnd_bind, bnd_bind, non_bind]
def gq34 (t_ : ByteArray) : Option (Int × ByteArray × ByteArray × Int) := gq34.F (fun y0 y1 y2 y3 => some (y0, y1, y2, y3)) t_
def gq34.out : (Int × ByteArray × ByteArray × Int) → CRes := fun a => ⟨encL SV.enc [.agg [.int .i64, .str, .str], .one (.int .i64)] ((a.1, a.2.1, a.2.2.1, ()), a.2.2.2, ()), [encL SC.enc [] ()]⟩
def gq34.ps : List PS := [.val [none]]
def gq34.sA : List SA := [.v (.one (.str))]
def gq34.fi : FI := FIs gq34.sA (Int × ByteArray × ByteArray × Int) (fun t => gq34 t.1) gq34.out gq34.ps
def gq34.E : Env := ⟨tt, lkF [(73, gq73.fi), (95, gq95.fi), (96, gq96.fi), (106, gq106.fi), (107, gq107.fi), (108, gq108.fi)], 53, 0, [], [], []⟩
theorem gq34.hok (hE : EOk Tryz.prog (gq34.E)) : HintOk Tryz.prog gq34.E (bodyOf Tryz.f34) (.a) := HintOk.n1 (Q := True) (by kernel_rfl) trivial
theorem gq34.hE : EOk Tryz.prog (gq34.E) := EOk.of ttOk (⟨gq73.fok, ⟨gq95.fok, ⟨gq96.fok, ⟨gq106.fok, ⟨gq107.fok, ⟨gq108.fok, trivial⟩⟩⟩⟩⟩⟩)
theorem gq34.fok : FOk Tryz.prog 34 gq34.fi :=
 fokS (E := gq34.E) (wy := ⟨[[none, none, none], [none]], [[]], []⟩) (h := (fun gs => .a)) (G := fun t g => gq34.F (fun y0 y1 y2 y3 => g (y0, y1, y2, y3)) t.1) (by kernel_rfl) gq34.hE Tryz.func34 (by kernel_rfl) rfl (Nat.le_refl _) (fun t => HintOk.n1 (by kernel_rfl) (gq34.hok gq34.hE)) (fun t g => gq34.F_nat g (fun y0 y1 y2 y3 => some (y0, y1, y2, y3)) _) (fun t => by kernel_rfl)
def gq35.F {R : Type} (kk : ByteArray → Int → Option R) (s_Size : Int) (s_Log : ByteArray) (s_Map : ByteArray) : Option R :=
 (gq102 s_Size s_Log s_Map).bind fun r =>
 cond (!r) (kk ByteArray.empty (1 : Int)) (
  (gq63 s_Size s_Log s_Map).bind fun r1 =>
  kk r1 (0 : Int))
theorem gq35.F_nat {R S : Type} (g : R → Option S) (kk : ByteArray → Int → Option R) (s_Size s_Log s_Map) : gq35.F (fun y0 y1 => (kk y0 y1).bind g) s_Size s_Log s_Map = (gq35.F kk s_Size s_Log s_Map).bind g := by
 simp only [gq35.F, grd_bind, cnd_bind, bnd_bind, non_bind]
def gq35 (s_Size : Int) (s_Log : ByteArray) (s_Map : ByteArray) : Option (ByteArray × Int) := gq35.F (fun y0 y1 => some (y0, y1)) s_Size s_Log s_Map
def gq35.out : (ByteArray × Int) → CRes := fun a => ⟨encL SV.enc [.one (.str), .one (.int .i64)] (a.1, a.2, ()), [encL SC.enc [] ()]⟩
def gq35.ps : List PS := [.val [none, none, none]]
def gq35.sA : List SA := [.v (.agg [.int .i64, .str, .str])]
def gq35.fi : FI := FIs gq35.sA (ByteArray × Int) (fun t => gq35 t.1.1 t.1.2.1 t.1.2.2.1) gq35.out gq35.ps
def gq35.E : Env := ⟨tt, lkF [(63, gq63.fi), (102, gq102.fi)], 9, 0, [], [], []⟩
theorem gq35.hok (hE : EOk Tryz.prog (gq35.E)) : HintOk Tryz.prog gq35.E (bodyOf Tryz.f35) (.a) := HintOk.n1 (Q := True) (by kernel_rfl) trivial
theorem gq35.hE : EOk Tryz.prog (gq35.E) := EOk.of ttOk (⟨gq63.fok, ⟨gq102.fok, trivial⟩⟩)
theorem gq35.fok : FOk Tryz.prog 35 gq35.fi :=
 fokS (E := gq35.E) (wy := ⟨[[none], [none]], [[]], []⟩) (h := (fun gs => .a)) (G := fun t g => gq35.F (fun y0 y1 => g (y0, y1)) t.1.1 t.1.2.1 t.1.2.2.1) (by kernel_rfl) gq35.hE Tryz.func35 (by kernel_rfl) rfl (Nat.le_refl _) (fun t => HintOk.n1 (by kernel_rfl) (gq35.hok gq35.hE)) (fun t g => gq35.F_nat g (fun y0 y1 => some (y0, y1)) _ _ _) (fun t => by kernel_rfl)
def gq150.F {R : Type} (rc : List ByteArray → Int → Option (List ByteArray)) (kk : List ByteArray → Option R) (list : List ByteArray) (at_ : Int) : Option R :=
 cond ((List.length list : Int) == (1 : Int)) (kk ([] : List ByteArray)) (
  (gq173 (List.length list : Int)).bind fun r =>
  cond (decide (at_ < r)) (
   grd (gSl (0 : Int) r (List.length list)) <|
   (rc (sub list (0 : Int) r) at_).bind fun r1 =>
   grd (gSl r (List.length list : Int) (List.length list)) <|
   (gq87 fuel (sub list r (List.length list : Int))).bind fun r2 =>
   grd (gRm (((List.length r1) + (List.length [r2])) * 16)) <|
   kk (r1 ++ [r2])) (
   grd (gSl r (List.length list : Int) (List.length list)) <|
   (rc (sub list r (List.length list : Int)) (IntKind.wrap .i64 (at_ - r))).bind fun r3 =>
   grd (gSl (0 : Int) r (List.length list)) <|
   (gq87 fuel (sub list (0 : Int) r)).bind fun r4 =>
   grd (gRm (((List.length r3) + (List.length [r4])) * 16)) <|
   kk (r3 ++ [r4])))
theorem gq150.F_nat {R S : Type} (g : R → Option S) (rc : List ByteArray → Int → Option (List ByteArray)) (kk : List ByteArray → Option R) (list at_) : gq150.F rc (fun y0 => (kk y0).bind g) list at_ = (gq150.F rc kk list at_).bind g := by
 simp only [gq150.F, grd_bind, cnd_bind, bnd_bind, non_bind]
def gq150 : Nat → List ByteArray → Int → Option (List ByteArray)
 | 0, _, _ => none
 | fu + 1, list, at_ => gq150.F (gq150 fu) (fun y0 => some y0) list at_
theorem gq150_nat {S : Type} (fu : Nat) (g : (List ByteArray) → Option S) (list : List ByteArray) (at_ : Int) : gq150.F (gq150 fu) (fun y0 => g y0) list at_ = (gq150 (fu + 1) list at_).bind g := gq150.F_nat g (gq150 fu) (fun y0 => some y0) list at_
def gq150.out : (List ByteArray) → CRes := fun a => ⟨encL SV.enc [.one (.own [] .str true)] (a, ()), [encL SC.enc [] (), encL SC.enc [] ()]⟩
def gq150.ps : List PS := [.val [some (.str, false)], .val [none]]
def gq150.sA : List SA := [.v (.one (.slv [] .str)), .v (.one (.int .i64))]
def gq150.fi (fu : Nat) : FI := FIs gq150.sA (List ByteArray) (fun t => gq150 fu t.1 t.2.1) gq150.out gq150.ps
def gq150.E (fu : Nat) : Env := ⟨tt, lkF [(87, gq87.fi fuel), (150, gq150.fi fu), (173, gq173.fi)], 40, 0, [], [], []⟩
theorem gq150.hok (fu : Nat) (hE : EOk Tryz.prog (gq150.E fu)) : HintOk Tryz.prog (gq150.E fu) (bodyOf Tryz.f150) (.a) := HintOk.n1 (Q := True) (by kernel_rfl) trivial
theorem gq150.fok0 : FOk Tryz.prog 150 (gq150.fi 0) := FOk.zero ⟨_, _, Tryz.func150, by kernel_rfl, rfl⟩ (fun _ => rfl)
theorem gq150.fok1 (fu : Nat) (ih : FOk Tryz.prog 150 (gq150.fi fu)) : FOk Tryz.prog 150 (gq150.fi (fu + 1)) := by
 have hE : EOk Tryz.prog (gq150.E fu) := EOk.of ttOk (⟨gq87.fok fuel, ⟨ih, ⟨gq173.fok, trivial⟩⟩⟩)
 exact fokS (E := gq150.E fu) (wy := ⟨[[some (.str, true)]], [[], []], []⟩) (h := (fun gs => .a)) (G := fun t g => gq150.F (gq150 fu) (fun y0 => g y0) t.1 t.2.1) (by kernel_rfl) hE Tryz.func150 (by kernel_rfl) rfl (Nat.le_refl _) (fun t => HintOk.n1 (by kernel_rfl) (gq150.hok fu hE)) (fun t g => gq150_nat fu g t.1 t.2.1) (fun t => by kernel_rfl)
theorem gq150.fok (fu : Nat) : FOk Tryz.prog 150 (gq150.fi fu) := Nat.rec gq150.fok0 gq150.fok1 fu
def gq62.l1 {R : Type} (kke0 : ByteArray → Int → Int → Int → List ByteArray → Option R) : Nat → ByteArray → Int → Int → Int → Int → List Int → List ByteArray → Option R
 | 0, _, _, _, _, _, _, _ => none
 | n + 1, seed, index, c, i, x, digits, l =>
  cond (decide (c < (18 : Int))) (
   (gq149 seed index c).bind fun r =>
   grd (gIx c (List.length digits)) <|
   (gq148 r (0 : Int) (rdE (.int .i64 : Kd) digits (Int.toNat c))).bind fun r1 =>
   grd (gRm (((List.length l) + (List.length [r1])) * 16)) <|
   gq62.l1 kke0 n seed index (IntKind.wrap .i64 (c + (1 : Int))) i x digits (l ++ [r1])) (kke0 seed index i x l)
theorem gq62.l1_nat {R S : Type} (g : R → Option S) (kke0 : ByteArray → Int → Int → Int → List ByteArray → Option R) : ∀ n seed index c i x digits l, gq62.l1 (fun y0 y1 y2 y3 y4 => (kke0 y0 y1 y2 y3 y4).bind g) n seed index c i x digits l = (gq62.l1 kke0 n seed index c i x digits l).bind g := by
 intro n
 induction n with
 | zero => intros; rfl
 | succ n ih => intros; simp only [gq62.l1, grd_bind, cnd_bind, bnd_bind, non_bind, ih]
def gq62.F {R : Type} (kk : Int → List ByteArray → List ByteArray → Option R) (seed : ByteArray) (index : Int) (msg : ByteArray) : Option R :=
 (gq147 msg).bind fun r =>
 gq62.l1 (fun seed1 index1 i x l =>
  (gq88 seed1).bind fun r1 =>
  (gq150 fuel r1 index1).bind fun r2 =>
  kk x l r2) fuel seed index (0 : Int) (0 : Int) index r ([] : List ByteArray)
theorem gq62.F_nat {R S : Type} (g : R → Option S) (kk : Int → List ByteArray → List ByteArray → Option R) (seed index msg) : gq62.F (fun y0 y1 y2 => (kk y0 y1 y2).bind g) seed index msg = (gq62.F kk seed index msg).bind g := by
 simp only [gq62.F, grd_bind, cnd_bind, bnd_bind, non_bind, ← gq62.l1_nat]
def gq62 (seed : ByteArray) (index : Int) (msg : ByteArray) : Option (Int × List ByteArray × List ByteArray) := gq62.F (fun y0 y1 y2 => some (y0, y1, y2)) seed index msg
def gq62.out : (Int × List ByteArray × List ByteArray) → CRes := fun a => ⟨encL SV.enc [.agg [.int .i64, .own [] .str true, .own [] .str true]] ((a.1, a.2.1, a.2.2, ()), ()), [encL SC.enc [] (), encL SC.enc [] (), encL SC.enc [] ()]⟩
def gq62.ps : List PS := [.val [none], .val [none], .val [none]]
def gq62.sA : List SA := [.v (.one (.str)), .v (.one (.int .i64)), .v (.one (.str))]
def gq62.fi : FI := FIs gq62.sA (Int × List ByteArray × List ByteArray) (fun t => gq62 t.1 t.2.1 t.2.2.1) gq62.out gq62.ps
def gq62.E : Env := ⟨tt, lkF [(88, gq88.fi), (147, gq147.fi), (148, gq148.fi), (149, gq149.fi), (150, gq150.fi fuel)], 39, 0, [], [], []⟩
def gq62.sh1 : SK := ⟨[.v (.one (.str)), .v (.one (.int .i64)), .v (.one (.bptr 0 0)), .v (.one (.bptr 1 0)), .v (.one (.slo 2)), .v (.one (.int .i64))], [.box [.int .i64, .nil, .nil], .box [.int .i64, .slo 3, .nil], .arr (.int .i64) [] true, .arr .str [] true]⟩
def gq62.sh1e0 : SK := ⟨[.v (.one (.str)), .v (.one (.int .i64)), .v (.one (.bptr 0 0)), .v (.one (.bptr 1 0))], [.box [.int .i64, .nil, .nil], .box [.int .i64, .slo 2, .nil], .arr .str [] true]⟩
def gq62.ko1 : Ex → List CastAt × List Nat
 | .nrm => ([], [])
 | .ret => ([], [])
 | .ext i => cond (Nat.beq i 0) ([], [0, 1, 6, 7]) ([], [])
def gq62.G1 (n : Nat) (R : Type) (t : gq62.sh1.T) (K : Ex → Kp → Option R) : Option R := gq62.l1 (fun y0 y1 y2 y3 y4 => K (.ext 0) (SK.enc gq62.sh1e0 ((y0, y1, (), (), ()), ((y2, (), (), ()), (y3, (), (), ()), y4, ())))) n t.1.1 t.1.2.1 t.1.2.2.2.2.2.1 t.2.1.1 t.2.2.1.1 t.2.2.2.1 t.2.2.2.2.1
def gq62.S1 : Sum := ⟨([], [0, 1, 6, 7, 8, 9]), sumF gq62.sh1 (gq62.G1 fuel), gq62.ko1⟩
theorem gq62.ok1 (hE : EOk Tryz.prog (gq62.E)) : SumOk Tryz.prog gq62.E (cB (cR (cL (cR (cR (cR (bodyOf Tryz.f62))))))) (gq62.S1) := by
 have hh : HintOk Tryz.prog gq62.E (cB (cB (cR (cL (cR (cR (cR (bodyOf Tryz.f62)))))))) (.a) := HintOk.n1 (Q := True) (by kernel_rfl) trivial
 have h := loopS (kin := ([], [0, 1, 6, 7, 8, 9])) (kout := gq62.ko1) (sh := gq62.sh1) (F := gq62.G1) (ops_ok (hE.gv _)) (by kernel_rfl) hh (fun _ _ _ => rfl) (fun n R t K => by kernel_rfl) fuel
 exact HintOk.n1 (c := (cB (cR (cL (cR (cR (cR (bodyOf Tryz.f62)))))))) (h := .s (gq62.S1)) (P := Tryz.prog) (E := gq62.E) (by kernel_rfl) h
theorem gq62.hok (hE : EOk Tryz.prog (gq62.E)) : HintOk Tryz.prog gq62.E (bodyOf Tryz.f62) (.n (.a) (.n (.a) (.n (.a) (.n (.n (.a) (.b (.s (gq62.S1)))) (.a))))) := HintOk.n1 (Q := (True) ∧ ((True) ∧ ((True) ∧ (((True) ∧ (SumOk Tryz.prog gq62.E (cB (cR (cL (cR (cR (cR (bodyOf Tryz.f62))))))) (gq62.S1))) ∧ (True))))) (by kernel_rfl) ⟨trivial, ⟨trivial, ⟨trivial, ⟨⟨trivial, (gq62.ok1 hE)⟩, trivial⟩⟩⟩⟩
theorem gq62.hE : EOk Tryz.prog (gq62.E) := EOk.of ttOk (⟨gq88.fok, ⟨gq147.fok, ⟨gq148.fok, ⟨gq149.fok, ⟨gq150.fok fuel, trivial⟩⟩⟩⟩⟩)
theorem gq62.fok : FOk Tryz.prog 62 gq62.fi :=
 fokS (E := gq62.E) (wy := ⟨[[none, some (.str, true), some (.str, true)]], [[], [], []], []⟩) (h := (fun gs => .n (.a) (.n (.a) (.n (.a) (.n (.n (.a) (.b (.s (gq62.S1)))) (.a)))))) (G := fun t g => gq62.F (fun y0 y1 y2 => g (y0, y1, y2)) t.1 t.2.1 t.2.2.1) (by kernel_rfl) gq62.hE Tryz.func62 (by kernel_rfl) rfl (Nat.le_refl _) (fun t => HintOk.n1 (by kernel_rfl) (gq62.hok gq62.hE)) (fun t g => gq62.F_nat g (fun y0 y1 y2 => some (y0, y1, y2)) _ _ _) (fun t => by kernel_rfl)
def gq36.F {R : Type} (kk : Int → List ByteArray → List ByteArray → Int → Option R) (seed : ByteArray) (index : Int) (msg : ByteArray) : Option R :=
 cond (decide ((ByteArray.size seed : Int) > (65536 : Int))) (kk (0 : Int) [] [] (2 : Int)) (
  cond (decide ((ByteArray.size msg : Int) > (65536 : Int))) (kk (0 : Int) [] [] (2 : Int)) (
   cond ((ByteArray.size seed : Int) != (32 : Int)) (kk (0 : Int) [] [] (1 : Int)) (
    (gq109 index).bind fun r =>
    cond (!r) (kk (0 : Int) [] [] (4 : Int)) (
     (gq62 seed index msg).bind fun r1 =>
     kk r1.1 r1.2.1 r1.2.2 (0 : Int)))))
theorem gq36.F_nat {R S : Type} (g : R → Option S) (kk : Int → List ByteArray → List ByteArray → Int → Option R) (seed index msg) : gq36.F (fun y0 y1 y2 y3 => (kk y0 y1 y2 y3).bind g) seed index msg = (gq36.F kk seed index msg).bind g := by
 simp only [gq36.F, grd_bind, cnd_bind, bnd_bind, non_bind]
def gq36 (seed : ByteArray) (index : Int) (msg : ByteArray) : Option (Int × List ByteArray × List ByteArray × Int) := gq36.F (fun y0 y1 y2 y3 => some (y0, y1, y2, y3)) seed index msg
def gq36.out : (Int × List ByteArray × List ByteArray × Int) → CRes := fun a => ⟨encL SV.enc [.agg [.int .i64, .own [] .str true, .own [] .str true], .one (.int .i64)] ((a.1, a.2.1, a.2.2.1, ()), a.2.2.2, ()), [encL SC.enc [] (), encL SC.enc [] (), encL SC.enc [] ()]⟩
def gq36.ps : List PS := [.val [none], .val [none], .val [none]]
def gq36.sA : List SA := [.v (.one (.str)), .v (.one (.int .i64)), .v (.one (.str))]
def gq36.fi : FI := FIs gq36.sA (Int × List ByteArray × List ByteArray × Int) (fun t => gq36 t.1 t.2.1 t.2.2.1) gq36.out gq36.ps
def gq36.E : Env := ⟨tt, lkF [(62, gq62.fi), (109, gq109.fi)], 28, 0, [], [], []⟩
theorem gq36.hok (hE : EOk Tryz.prog (gq36.E)) : HintOk Tryz.prog gq36.E (bodyOf Tryz.f36) (.a) := HintOk.n1 (Q := True) (by kernel_rfl) trivial
theorem gq36.hE : EOk Tryz.prog (gq36.E) := EOk.of ttOk (⟨gq62.fok, ⟨gq109.fok, trivial⟩⟩)
theorem gq36.fok : FOk Tryz.prog 36 gq36.fi :=
 fokS (E := gq36.E) (wy := ⟨[[none, some (.str, true), some (.str, true)], [none]], [[], [], []], []⟩) (h := (fun gs => .a)) (G := fun t g => gq36.F (fun y0 y1 y2 y3 => g (y0, y1, y2, y3)) t.1 t.2.1 t.2.2.1) (by kernel_rfl) gq36.hE Tryz.func36 (by kernel_rfl) rfl (Nat.le_refl _) (fun t => HintOk.n1 (by kernel_rfl) (gq36.hok gq36.hE)) (fun t g => gq36.F_nat g (fun y0 y1 y2 y3 => some (y0, y1, y2, y3)) _ _ _) (fun t => by kernel_rfl)
def gq4.j1 {R : Type} (kkn : ByteArray → Int → ByteArray → ByteArray → ByteArray → ByteArray → Bool → Int → ByteArray → ByteArray → Int → List ByteArray → List ByteArray → Option R) (kkr : Bool → Option R) (seed : ByteArray) (old : Int) (log : ByteArray) (values : ByteArray) (c : Int) (all : ByteArray) (d : Int) (e : Int) (f : Int) (g_ : Int) (wish : Int) (h : Int) (t_ : ByteArray) (t_1 : Bool) (t_2 : Int) (t_3 : ByteArray) (t_4 : ByteArray) (s : Int) (s1 : ByteArray) (s2 : ByteArray) (x : Int) (same : ByteArray) (same1 : Bool) (same2 : Int) (same3 : ByteArray) (same4 : ByteArray) (want : ByteArray) (want1 : Bool) (want2 : Int) (want3 : ByteArray) (want4 : ByteArray) (back : Int) (back1 : ByteArray) (back2 : ByteArray) (l : List ByteArray) (l1 : List ByteArray) : Option R :=
 cond (c != (0 : Int)) (kkr false) (
  cond (d != (0 : Int)) (kkr false) (
   cond (e != (0 : Int)) (kkr false) (
    cond (f != (0 : Int)) (kkr false) (
     cond (g_ != wish) (kkr false) (
      cond (!((sEq same want) && ((same1 == want1) && ((same2 == want2) && ((sEq same3 want3) && (sEq same4 want4)))))) (kkr false) (
       cond (g_ != (0 : Int)) (
        cond (!((sEq same t_) && ((same1 == t_1) && ((same2 == t_2) && ((sEq same3 t_3) && (sEq same4 t_4)))))) (kkr false) (
         cond (h != (0 : Int)) (kkr false) (
          cond (!((back == s) && ((sEq back1 s1) && (sEq back2 s2)))) (kkr false) (kkn seed old log values all t_ t_1 t_2 t_3 t_4 x l l1)))) (
        cond (h != (0 : Int)) (kkr false) (
         cond (!((back == s) && ((sEq back1 s1) && (sEq back2 s2)))) (kkr false) (kkn seed old log values all t_ t_1 t_2 t_3 t_4 x l l1)))))))))
theorem gq4.j1_nat {R S : Type} (g : R → Option S) (kkn : ByteArray → Int → ByteArray → ByteArray → ByteArray → ByteArray → Bool → Int → ByteArray → ByteArray → Int → List ByteArray → List ByteArray → Option R) (kkr : Bool → Option R) (seed old log values c all d e f g_ wish h t_ t_1 t_2 t_3 t_4 s s1 s2 x same same1 same2 same3 same4 want want1 want2 want3 want4 back back1 back2 l l1) : gq4.j1 (fun y0 y1 y2 y3 y4 y5 y6 y7 y8 y9 y10 y11 y12 => (kkn y0 y1 y2 y3 y4 y5 y6 y7 y8 y9 y10 y11 y12).bind g) (fun y0 => (kkr y0).bind g) seed old log values c all d e f g_ wish h t_ t_1 t_2 t_3 t_4 s s1 s2 x same same1 same2 same3 same4 want want1 want2 want3 want4 back back1 back2 l l1 = (gq4.j1 kkn kkr seed old log values c all d e f g_ wish h t_ t_1 t_2 t_3 t_4 s s1 s2 x same same1 same2 same3 same4 want want1 want2 want3 want4 back back1 back2 l l1).bind g := by
 simp only [gq4.j1, grd_bind, cnd_bind, bnd_bind, non_bind]
def gq4.F {R : Type} (kk : Bool → Option R) (code : List Int) (more : List Int) : Option R :=
 cond (decide ((List.length code : Int) > (1048576 : Int))) (kk true) (
  cond (decide ((List.length more : Int) > (1048576 : Int))) (kk true) (
   (gq22 code).bind fun r =>
   cond (decide ((List.length r : Int) < (2 : Int))) (kk true) (
    cond (decide ((List.length r : Int) > (40 : Int))) (kk true) (
     (gq23 more).bind fun r1 =>
     (gq24 r1).bind fun r2 =>
     (l_at more (0 : Int) (IntKind.wrap .i64 ((List.length r : Int) - (1 : Int)))).bind fun r3 =>
     grd (gSl (0 : Int) (IntKind.wrap .i64 ((1 : Int) + r3)) (List.length r)) <|
     (gq26 (sub r (0 : Int) (IntKind.wrap .i64 ((1 : Int) + r3)))).bind fun r4 =>
     (gq23 code).bind fun r5 =>
     grd (gRm (((List.length ([] : List ByteArray)) + (List.length r)) * 16)) <|
     (l_at more (1 : Int) (IntKind.wrap .i64 ((1 : Int) + r3))).bind fun r6 =>
     grd (gSl (0 : Int) (mn2 (9 : Int) (List.length more : Int)) (List.length more)) <|
     grd (gCat (⟨#[97, 110, 111, 116, 104, 101, 114, 32, 108, 101, 97, 102]⟩ : ByteArray) (strL (sub more (0 : Int) (mn2 (9 : Int) (List.length more : Int))))) <|
     (s_Hash (bytesL ((⟨#[97, 110, 111, 116, 104, 101, 114, 32, 108, 101, 97, 102]⟩ : ByteArray) ++ (strL (sub more (0 : Int) (mn2 (9 : Int) (List.length more : Int))))))).bind fun r7 =>
     grd (gIx r6 (List.length (([] : List ByteArray) ++ r))) <|
     (gq28 (setE (.str : Kd) (([] : List ByteArray) ++ r) (Int.toNat r6) r7) (IntKind.wrap .i64 ((1 : Int) + r3))).bind fun r8 =>
     (gq29 (setE (.str : Kd) (([] : List ByteArray) ++ r) (Int.toNat r6) r7)).bind fun r9 =>
     (gq30 (List.length (setE (.str : Kd) (([] : List ByteArray) ++ r) (Int.toNat r6) r7) : Int) r9.1 r5).bind fun r10 =>
     (gq31 r1 (0 : Int) r10.1).bind fun r11 =>
     (gq32 r2.1 true (IntKind.wrap .i64 ((1 : Int) + r3)) r4.1 r5 (List.length (setE (.str : Kd) (([] : List ByteArray) ++ r) (Int.toNat r6) r7) : Int) r9.1 r5 r11.1 r11.2.1 r11.2.2.1 r8.1).bind fun r12 =>
     (gq33 r2.1 true (IntKind.wrap .i64 ((1 : Int) + r3)) r4.1 r5 (List.length (setE (.str : Kd) (([] : List ByteArray) ++ r) (Int.toNat r6) r7) : Int) r9.1 r5 r11.1 r11.2.1 r11.2.2.1 r8.1).bind fun r13 =>
     (gq34 r10.1).bind fun r14 =>
     gq4.j1 (fun seed old log values all t_ t_1 t_2 t_3 t_4 x l l1 =>
      (gq35 (IntKind.wrap .i64 (old - (1 : Int))) log values).bind fun r15 =>
      (gq36 seed (1 : Int) r15.1).bind fun r16 =>
      (gq32 t_ t_1 t_2 t_3 t_4 (IntKind.wrap .i64 (old - (1 : Int))) log values r16.1 r16.2.1 r16.2.2.1 []).bind fun r17 =>
      cond (r17.2.2.2.2.2 != (16 : Int)) (kk false) (
       (gq35 old all values).bind fun r18 =>
       (gq36 seed (2 : Int) r18.1).bind fun r19 =>
       (gq32 t_ t_1 t_2 t_3 t_4 old all values r19.1 r19.2.1 r19.2.2.1 []).bind fun r20 =>
       cond (r20.2.2.2.2.2 == (19 : Int)) (kk true) (cond (sEq all log) (kk (r20.2.2.2.2.2 == (0 : Int))) (kk false)))) (fun b => kk b) r1 (IntKind.wrap .i64 ((1 : Int) + r3)) r4.1 r5 r8.2 r9.1 r9.2 r10.2 r11.2.2.2 r12.2.2.2.2.2 r13.2.2.2.2.2 r14.2.2.2 r2.1 true (IntKind.wrap .i64 ((1 : Int) + r3)) r4.1 r5 (List.length (setE (.str : Kd) (([] : List ByteArray) ++ r) (Int.toNat r6) r7) : Int) r9.1 r5 r11.1 r12.1 r12.2.1 r12.2.2.1 r12.2.2.2.1 r12.2.2.2.2.1 r13.1 r13.2.1 r13.2.2.1 r13.2.2.2.1 r13.2.2.2.2.1 r14.1 r14.2.1 r14.2.2.1 r11.2.1 r11.2.2.1))))
theorem gq4.F_nat {R S : Type} (g : R → Option S) (kk : Bool → Option R) (code more) : gq4.F (fun y0 => (kk y0).bind g) code more = (gq4.F kk code more).bind g := by
 simp only [gq4.F, grd_bind, cnd_bind, bnd_bind, non_bind, ← gq4.j1_nat]
def gq4 (code : List Int) (more : List Int) : Option Bool := gq4.F (fun y0 => some y0) code more
def gq4.out : Bool → CRes := fun a => ⟨encL SV.enc [.one (.bool)] (a, ()), [encL SC.enc [] (), encL SC.enc [] ()]⟩
def gq4.ps : List PS := [.val [some ((.int .u8), false)], .val [some ((.int .u8), false)]]
def gq4.sA : List SA := [.v (.one (.slv [] (.int .u8))), .v (.one (.slv [] (.int .u8)))]
def gq4.fi : FI := FIs gq4.sA (Bool) (fun t => gq4 t.1 t.2.1) gq4.out gq4.ps
def gq4.E : Env := ⟨tt, lkF [(22, gq22.fi), (23, gq23.fi), (24, gq24.fi), (25, l_at.fi), (26, gq26.fi), (27, s_Hash.fi), (28, gq28.fi), (29, gq29.fi), (30, gq30.fi), (31, gq31.fi), (32, gq32.fi), (33, gq33.fi), (34, gq34.fi), (35, gq35.fi), (36, gq36.fi)], 246, 0, [], [], []⟩
def gq4.sh1 : SK := ⟨[.v (.one (.str)), .v (.one (.int .i64)), .v (.one (.str)), .v (.one (.str)), .v (.one (.bptr 0 0)), .v (.one (.int .i64)), .v (.one (.str)), .v (.one (.int .i64)), .v (.one (.bptr 1 0)), .v (.one (.int .i64)), .v (.one (.bptr 2 0)), .v (.one (.int .i64)), .v (.one (.bptr 3 0)), .v (.one (.int .i64)), .v (.one (.bptr 4 0)), .v (.one (.int .i64)), .v (.one (.bptr 5 0)), .v (.one (.int .i64))], [.box [.str, .bool, .int .i64, .str, .str], .box [.int .i64, .str, .str], .box [.int .i64, .slo 6, .slo 7], .box [.str, .bool, .int .i64, .str, .str], .box [.str, .bool, .int .i64, .str, .str], .box [.int .i64, .str, .str], .arr .str [] true, .arr .str [] true]⟩
def gq4.sh1n : SK := ⟨[.v (.one (.str)), .v (.one (.int .i64)), .v (.one (.str)), .v (.one (.str)), .v (.one (.bptr 0 0)), .v (.one (.str)), .v (.one (.bptr 1 0))], [.box [.str, .bool, .int .i64, .str, .str], .box [.int .i64, .slo 2, .slo 3], .arr .str [] true, .arr .str [] true]⟩
def gq4.sh1r : SK := ⟨[.v (.one (.bool))], []⟩
def gq4.ko1 : Ex → List CastAt × List Nat
 | .nrm => ([], [6, 9, 10, 12, 13, 17, 22])
 | .ret => ([], [4])
 | .ext i => ([], [])
def gq4.G1 (R : Type) (t : gq4.sh1.T) (K : Ex → Kp → Option R) : Option R := gq4.j1 (fun y0 y1 y2 y3 y4 y5 y6 y7 y8 y9 y10 y11 y12 => K .nrm (SK.enc gq4.sh1n ((y0, y1, y2, y3, (), y4, (), ()), ((y5, y6, y7, y8, y9, ()), (y10, (), (), ()), y11, y12, ())))) (fun y0 => K .ret (SK.enc gq4.sh1r ((y0, ()), ()))) t.1.1 t.1.2.1 t.1.2.2.1 t.1.2.2.2.1 t.1.2.2.2.2.2.1 t.1.2.2.2.2.2.2.1 t.1.2.2.2.2.2.2.2.1 t.1.2.2.2.2.2.2.2.2.2.1 t.1.2.2.2.2.2.2.2.2.2.2.2.1 t.1.2.2.2.2.2.2.2.2.2.2.2.2.2.1 t.1.2.2.2.2.2.2.2.2.2.2.2.2.2.2.2.1 t.1.2.2.2.2.2.2.2.2.2.2.2.2.2.2.2.2.2.1 t.2.1.1 t.2.1.2.1 t.2.1.2.2.1 t.2.1.2.2.2.1 t.2.1.2.2.2.2.1 t.2.2.1.1 t.2.2.1.2.1 t.2.2.1.2.2.1 t.2.2.2.1.1 t.2.2.2.2.1.1 t.2.2.2.2.1.2.1 t.2.2.2.2.1.2.2.1 t.2.2.2.2.1.2.2.2.1 t.2.2.2.2.1.2.2.2.2.1 t.2.2.2.2.2.1.1 t.2.2.2.2.2.1.2.1 t.2.2.2.2.2.1.2.2.1 t.2.2.2.2.2.1.2.2.2.1 t.2.2.2.2.2.1.2.2.2.2.1 t.2.2.2.2.2.2.1.1 t.2.2.2.2.2.2.1.2.1 t.2.2.2.2.2.2.1.2.2.1 t.2.2.2.2.2.2.2.1 t.2.2.2.2.2.2.2.2.1
def gq4.S1 : Sum := ⟨([], [6, 9, 10, 12, 13, 16, 17, 18, 19, 21, 22, 23, 24, 25, 26, 27, 28, 29]), sumF gq4.sh1 (gq4.G1), gq4.ko1⟩
theorem gq4.ok1 (hE : EOk Tryz.prog (gq4.E)) : SumOk Tryz.prog gq4.E (cL (cR (cR (cR (cR (cR (cR (cR (cR (cR (cR (cR (cR (cR (cR (cR (cR (cR (cR (cR (cR (bodyOf Tryz.f4)))))))))))))))))))))) (gq4.S1) := by
 have hh : HintOk Tryz.prog gq4.E (cL (cR (cR (cR (cR (cR (cR (cR (cR (cR (cR (cR (cR (cR (cR (cR (cR (cR (cR (cR (cR (bodyOf Tryz.f4)))))))))))))))))))))) (.a) := HintOk.n1 (Q := True) (by kernel_rfl) trivial
 exact sumS (kin := ([], [6, 9, 10, 12, 13, 16, 17, 18, 19, 21, 22, 23, 24, 25, 26, 27, 28, 29])) (kout := gq4.ko1) (sh := gq4.sh1) (F := gq4.G1) (ops_ok (hE.gv _)) (by kernel_rfl) hh (fun R t K => by kernel_rfl)
theorem gq4.hok (hE : EOk Tryz.prog (gq4.E)) : HintOk Tryz.prog gq4.E (bodyOf Tryz.f4) (.n (.a) (.n (.a) (.n (.a) (.n (.a) (.n (.a) (.n (.a) (.n (.a) (.n (.a) (.n (.a) (.n (.a) (.n (.a) (.n (.a) (.n (.a) (.n (.a) (.n (.a) (.n (.a) (.n (.a) (.n (.a) (.n (.a) (.n (.a) (.n (.s (gq4.S1)) (.a)))))))))))))))))))))) := HintOk.n1 (Q := (True) ∧ ((True) ∧ ((True) ∧ ((True) ∧ ((True) ∧ ((True) ∧ ((True) ∧ ((True) ∧ ((True) ∧ ((True) ∧ ((True) ∧ ((True) ∧ ((True) ∧ ((True) ∧ ((True) ∧ ((True) ∧ ((True) ∧ ((True) ∧ ((True) ∧ ((True) ∧ ((SumOk Tryz.prog gq4.E (cL (cR (cR (cR (cR (cR (cR (cR (cR (cR (cR (cR (cR (cR (cR (cR (cR (cR (cR (cR (cR (bodyOf Tryz.f4)))))))))))))))))))))) (gq4.S1)) ∧ (True)))))))))))))))))))))) (by kernel_rfl) ⟨trivial, ⟨trivial, ⟨trivial, ⟨trivial, ⟨trivial, ⟨trivial, ⟨trivial, ⟨trivial, ⟨trivial, ⟨trivial, ⟨trivial, ⟨trivial, ⟨trivial, ⟨trivial, ⟨trivial, ⟨trivial, ⟨trivial, ⟨trivial, ⟨trivial, ⟨trivial, ⟨(gq4.ok1 hE), trivial⟩⟩⟩⟩⟩⟩⟩⟩⟩⟩⟩⟩⟩⟩⟩⟩⟩⟩⟩⟩⟩
theorem gq4.hE : EOk Tryz.prog (gq4.E) := EOk.of ttOk (⟨gq22.fok, ⟨gq23.fok, ⟨gq24.fok, ⟨l_at.fok, ⟨gq26.fok, ⟨s_Hash.fok, ⟨gq28.fok, ⟨gq29.fok, ⟨gq30.fok, ⟨gq31.fok, ⟨gq32.fok, ⟨gq33.fok, ⟨gq34.fok, ⟨gq35.fok, ⟨gq36.fok, trivial⟩⟩⟩⟩⟩⟩⟩⟩⟩⟩⟩⟩⟩⟩⟩)
theorem gq4.fok : FOk Tryz.prog 4 gq4.fi :=
 fokS (E := gq4.E) (wy := ⟨[[none]], [[], []], []⟩) (h := (fun gs => .n (.a) (.n (.a) (.n (.a) (.n (.a) (.n (.a) (.n (.a) (.n (.a) (.n (.a) (.n (.a) (.n (.a) (.n (.a) (.n (.a) (.n (.a) (.n (.a) (.n (.a) (.n (.a) (.n (.a) (.n (.a) (.n (.a) (.n (.a) (.n (.s (gq4.S1)) (.a))))))))))))))))))))))) (G := fun t g => gq4.F (fun y0 => g y0) t.1 t.2.1) (by kernel_rfl) gq4.hE Tryz.func4 (by kernel_rfl) rfl (Nat.le_refl _) (fun t => HintOk.n1 (by kernel_rfl) (gq4.hok gq4.hE)) (fun t g => gq4.F_nat g (fun y0 => some y0) _ _) (fun t => by kernel_rfl)
end
end Go.Proofs.YtdhifkdijlghdaaGreatDoorA
