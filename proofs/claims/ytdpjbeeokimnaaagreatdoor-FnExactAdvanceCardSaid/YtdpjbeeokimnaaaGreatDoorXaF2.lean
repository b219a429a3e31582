/-
  Functions of the program, and that the small machine's runs are these. No condition.
  Printed by wip/amp/main.py (a session's own program) out of Lean's print of the program; Lean's kernel checks it.
-/
import Derived.Test.YtdpjbeeokimnaaaGreatDoorXaF1
namespace Go.Proofs.YtdpjbeeokimnaaaGreatDoorA
open Go
noncomputable section
set_option linter.unusedVariables false
set_option linter.unusedSimpArgs false
set_option maxRecDepth 100000

/-! loop.example_g00220_impl.grows -/
def i_grows.F {R : Type} (kk : Int → Option R) (was_Size : Int) (was_Log : ByteArray) (was_Map : ByteArray) (now_Size : Int) (now_Log : ByteArray) (now_Map : ByteArray) (proof : List ByteArray) : Option R :=
  (i_growthRoots was_Size now_Size was_Log proof).bind fun r =>
  cond (r.2.2 != (0 : Int)) (kk (10 : Int)) (
    cond (!(sEq r.1 was_Log)) (kk (19 : Int)) (cond (!(sEq r.2.1 now_Log)) (kk (19 : Int)) (kk (0 : Int))))
theorem i_grows.F_nat {R S : Type} (g : R → Option S) (kk : Int → Option R) (was_Size : Int) (was_Log : ByteArray) (was_Map : ByteArray) (now_Size : Int) (now_Log : ByteArray) (now_Map : ByteArray) (proof : List ByteArray) : i_grows.F (fun y0 => (kk y0).bind g) was_Size was_Log was_Map now_Size now_Log now_Map proof = (i_grows.F kk was_Size was_Log was_Map now_Size now_Log now_Map proof).bind g := by
  simp only [i_grows.F, grd_bind, cnd_bind, bnd_bind, non_bind]
def i_grows (was_Size : Int) (was_Log : ByteArray) (was_Map : ByteArray) (now_Size : Int) (now_Log : ByteArray) (now_Map : ByteArray) (proof : List ByteArray) : Option Int := i_grows.F (fun y0 => some y0) was_Size was_Log was_Map now_Size now_Log now_Map proof
theorem i_grows_nat {S : Type} (g : Int → Option S) (was_Size : Int) (was_Log : ByteArray) (was_Map : ByteArray) (now_Size : Int) (now_Log : ByteArray) (now_Map : ByteArray) (proof : List ByteArray) : i_grows.F (fun y0 => g y0) was_Size was_Log was_Map now_Size now_Log now_Map proof = (i_grows was_Size was_Log was_Map now_Size now_Log now_Map proof).bind g := i_grows.F_nat g (fun y0 => some y0) was_Size was_Log was_Map now_Size now_Log now_Map proof
def i_grows.out : Int → CRes := fun a => ⟨encL SV.enc [.one (.int .i64)] (a, ()), [encL SC.enc [] (), encL SC.enc [] (), encL SC.enc [] ()]⟩
def i_grows.ps : List PS := [.val [none, none, none], .val [none, none, none], .val [some (.str, false)]]
def i_grows.sA : List SA := [.v (.agg [.int .i64, .str, .str]), .v (.agg [.int .i64, .str, .str]), .v (.one (.slv [] .str))]
def i_grows.fi : FI := FIs i_grows.sA (Int) (fun t => i_grows t.1.1 t.1.2.1 t.1.2.2.1 t.2.1.1 t.2.1.2.1 t.2.1.2.2.1 t.2.2.1) i_grows.out i_grows.ps
def i_grows.E : Env := ⟨tt, lkF [(169, i_growthRoots.fi)], 36, 0, [], []⟩
theorem i_grows.hok (hE : EOk Tryz.prog (i_grows.E)) : HintOk Tryz.prog i_grows.E (bodyOf Tryz.f125) (.a) := HintOk.n1 (Q := True) (by kernel_rfl) trivial
theorem i_grows.hE : EOk Tryz.prog (i_grows.E) := EOk.of ttOk (⟨i_growthRoots.fok, trivial⟩)
theorem i_grows.fok : FOk Tryz.prog 125 i_grows.fi :=
  fokS (E := i_grows.E) (wy := ⟨[[none]], [[], [], []], []⟩) (h := (fun gs => .a)) (G := fun t g => i_grows.F (fun y0 => g y0) t.1.1 t.1.2.1 t.1.2.2.1 t.2.1.1 t.2.1.2.1 t.2.1.2.2.1 t.2.2.1) (by kernel_rfl) i_grows.hE Tryz.func125 (by kernel_rfl) rfl (Nat.le_refl _) (fun t => HintOk.n1 (by kernel_rfl) (i_grows.hok i_grows.hE)) (fun t g => i_grows_nat g t.1.1 t.1.2.1 t.1.2.2.1 t.2.1.1 t.2.1.2.1 t.2.1.2.2.1 t.2.2.1) (fun t => by kernel_rfl)
/-! _loop.example_g00220_impl.Trust_.advances -/
def i_Trust_advances.j1 {R : Type} (kkn : List ByteArray → Bool → ByteArray → Bool → Int → ByteArray → ByteArray → Int → ByteArray → ByteArray → Int → ByteArray → ByteArray → Option R) (proof : List ByteArray) (t_ : ByteArray) (t_1 : Bool) (t_2 : Int) (t_3 : ByteArray) (t_4 : ByteArray) (s : Int) (s1 : ByteArray) (s2 : ByteArray) (was : Int) (was1 : ByteArray) (was2 : ByteArray) : Option R :=
  cond (t_1) (kkn proof (decide (s < was)) t_ t_1 t_2 t_3 t_4 s s1 s2 was was1 was2) (kkn proof false t_ t_1 t_2 t_3 t_4 s s1 s2 was was1 was2)
theorem i_Trust_advances.j1_nat {R S : Type} (g : R → Option S) (kkn : List ByteArray → Bool → ByteArray → Bool → Int → ByteArray → ByteArray → Int → ByteArray → ByteArray → Int → ByteArray → ByteArray → Option R) (proof : List ByteArray) (t_ : ByteArray) (t_1 : Bool) (t_2 : Int) (t_3 : ByteArray) (t_4 : ByteArray) (s : Int) (s1 : ByteArray) (s2 : ByteArray) (was : Int) (was1 : ByteArray) (was2 : ByteArray) : i_Trust_advances.j1 (fun y0 y1 y2 y3 y4 y5 y6 y7 y8 y9 y10 y11 y12 => (kkn y0 y1 y2 y3 y4 y5 y6 y7 y8 y9 y10 y11 y12).bind g) proof t_ t_1 t_2 t_3 t_4 s s1 s2 was was1 was2 = (i_Trust_advances.j1 kkn proof t_ t_1 t_2 t_3 t_4 s s1 s2 was was1 was2).bind g := by
  simp only [i_Trust_advances.j1, grd_bind, cnd_bind, bnd_bind, non_bind]
def i_Trust_advances.j2 {R : Type} (kkn : List ByteArray → Bool → ByteArray → Bool → Int → ByteArray → ByteArray → Int → ByteArray → ByteArray → Int → ByteArray → ByteArray → Option R) (proof : List ByteArray) (t_ : ByteArray) (t_1 : Bool) (t_2 : Int) (t_3 : ByteArray) (t_4 : ByteArray) (s : Int) (s1 : ByteArray) (s2 : ByteArray) (was : Int) (was1 : ByteArray) (was2 : ByteArray) : Option R :=
  cond (t_1) (
    cond (s == was) (
      kkn proof (!((s == was) && ((sEq s1 was1) && (sEq s2 was2)))) t_ t_1 t_2 t_3 t_4 s s1 s2 was was1 was2) (kkn proof false t_ t_1 t_2 t_3 t_4 s s1 s2 was was1 was2)) (kkn proof false t_ t_1 t_2 t_3 t_4 s s1 s2 was was1 was2)
theorem i_Trust_advances.j2_nat {R S : Type} (g : R → Option S) (kkn : List ByteArray → Bool → ByteArray → Bool → Int → ByteArray → ByteArray → Int → ByteArray → ByteArray → Int → ByteArray → ByteArray → Option R) (proof : List ByteArray) (t_ : ByteArray) (t_1 : Bool) (t_2 : Int) (t_3 : ByteArray) (t_4 : ByteArray) (s : Int) (s1 : ByteArray) (s2 : ByteArray) (was : Int) (was1 : ByteArray) (was2 : ByteArray) : i_Trust_advances.j2 (fun y0 y1 y2 y3 y4 y5 y6 y7 y8 y9 y10 y11 y12 => (kkn y0 y1 y2 y3 y4 y5 y6 y7 y8 y9 y10 y11 y12).bind g) proof t_ t_1 t_2 t_3 t_4 s s1 s2 was was1 was2 = (i_Trust_advances.j2 kkn proof t_ t_1 t_2 t_3 t_4 s s1 s2 was was1 was2).bind g := by
  simp only [i_Trust_advances.j2, grd_bind, cnd_bind, bnd_bind, non_bind]
def i_Trust_advances.j3 {R : Type} (kkn : List ByteArray → Bool → Int → ByteArray → ByteArray → Int → ByteArray → ByteArray → Option R) (proof : List ByteArray) (t_ : ByteArray) (t_1 : Bool) (t_2 : Int) (t_3 : ByteArray) (t_4 : ByteArray) (s : Int) (s1 : ByteArray) (s2 : ByteArray) (was : Int) (was1 : ByteArray) (was2 : ByteArray) : Option R :=
  cond (t_1) (
    cond (decide (was > (0 : Int))) (kkn proof (decide (s > was)) s s1 s2 was was1 was2) (kkn proof false s s1 s2 was was1 was2)) (kkn proof false s s1 s2 was was1 was2)
theorem i_Trust_advances.j3_nat {R S : Type} (g : R → Option S) (kkn : List ByteArray → Bool → Int → ByteArray → ByteArray → Int → ByteArray → ByteArray → Option R) (proof : List ByteArray) (t_ : ByteArray) (t_1 : Bool) (t_2 : Int) (t_3 : ByteArray) (t_4 : ByteArray) (s : Int) (s1 : ByteArray) (s2 : ByteArray) (was : Int) (was1 : ByteArray) (was2 : ByteArray) : i_Trust_advances.j3 (fun y0 y1 y2 y3 y4 y5 y6 y7 => (kkn y0 y1 y2 y3 y4 y5 y6 y7).bind g) proof t_ t_1 t_2 t_3 t_4 s s1 s2 was was1 was2 = (i_Trust_advances.j3 kkn proof t_ t_1 t_2 t_3 t_4 s s1 s2 was was1 was2).bind g := by
  simp only [i_Trust_advances.j3, grd_bind, cnd_bind, bnd_bind, non_bind]
def i_Trust_advances.F {R : Type} (kk : Int → Option R) (t_Key : ByteArray) (t_Has : Bool) (t_Size : Int) (t_Log : ByteArray) (t_Map : ByteArray) (s_Size : Int) (s_Log : ByteArray) (s_Map : ByteArray) (proof : List ByteArray) : Option R :=
  (i_Trust_last t_Key t_Has t_Size t_Log t_Map).bind fun r =>
  i_Trust_advances.j1 (fun proof1 b t_ t_1 t_2 t_3 t_4 s s1 s2 was was1 was2 =>
    cond (b) (kk (16 : Int)) (
      i_Trust_advances.j2 (fun proof2 b1 t_5 t_6 t_7 t_8 t_9 s3 s4 s5 was3 was4 was5 =>
        cond (b1) (kk (19 : Int)) (
          i_Trust_advances.j3 (fun proof3 b2 s6 s7 s8 was6 was7 was8 =>
            cond (b2) (
              (i_grows was6 was7 was8 s6 s7 s8 proof3).bind fun r1 =>
              kk r1) (cond (decide ((List.length proof3 : Int) > (0 : Int))) (kk (10 : Int)) (kk (0 : Int)))) proof2 t_5 t_6 t_7 t_8 t_9 s3 s4 s5 was3 was4 was5)) proof1 t_ t_1 t_2 t_3 t_4 s s1 s2 was was1 was2)) proof t_Key t_Has t_Size t_Log t_Map s_Size s_Log s_Map r.1 r.2.1 r.2.2
theorem i_Trust_advances.F_nat {R S : Type} (g : R → Option S) (kk : Int → Option R) (t_Key : ByteArray) (t_Has : Bool) (t_Size : Int) (t_Log : ByteArray) (t_Map : ByteArray) (s_Size : Int) (s_Log : ByteArray) (s_Map : ByteArray) (proof : List ByteArray) : i_Trust_advances.F (fun y0 => (kk y0).bind g) t_Key t_Has t_Size t_Log t_Map s_Size s_Log s_Map proof = (i_Trust_advances.F kk t_Key t_Has t_Size t_Log t_Map s_Size s_Log s_Map proof).bind g := by
  simp only [i_Trust_advances.F, grd_bind, cnd_bind, bnd_bind, non_bind, ← i_Trust_advances.j1_nat, ← i_Trust_advances.j2_nat, ← i_Trust_advances.j3_nat]
def i_Trust_advances (t_Key : ByteArray) (t_Has : Bool) (t_Size : Int) (t_Log : ByteArray) (t_Map : ByteArray) (s_Size : Int) (s_Log : ByteArray) (s_Map : ByteArray) (proof : List ByteArray) : Option Int := i_Trust_advances.F (fun y0 => some y0) t_Key t_Has t_Size t_Log t_Map s_Size s_Log s_Map proof
theorem i_Trust_advances_nat {S : Type} (g : Int → Option S) (t_Key : ByteArray) (t_Has : Bool) (t_Size : Int) (t_Log : ByteArray) (t_Map : ByteArray) (s_Size : Int) (s_Log : ByteArray) (s_Map : ByteArray) (proof : List ByteArray) : i_Trust_advances.F (fun y0 => g y0) t_Key t_Has t_Size t_Log t_Map s_Size s_Log s_Map proof = (i_Trust_advances t_Key t_Has t_Size t_Log t_Map s_Size s_Log s_Map proof).bind g := i_Trust_advances.F_nat g (fun y0 => some y0) t_Key t_Has t_Size t_Log t_Map s_Size s_Log s_Map proof
def i_Trust_advances.out : Int → CRes := fun a => ⟨encL SV.enc [.one (.int .i64)] (a, ()), [encL SC.enc [] (), encL SC.enc [] (), encL SC.enc [] ()]⟩
def i_Trust_advances.ps : List PS := [.val [none, none, none, none, none], .val [none, none, none], .val [some (.str, false)]]
def i_Trust_advances.sA : List SA := [.v (.agg [.str, .bool, .int .i64, .str, .str]), .v (.agg [.int .i64, .str, .str]), .v (.one (.slv [] .str))]
def i_Trust_advances.fi : FI := FIs i_Trust_advances.sA (Int) (fun t => i_Trust_advances t.1.1 t.1.2.1 t.1.2.2.1 t.1.2.2.2.1 t.1.2.2.2.2.1 t.2.1.1 t.2.1.2.1 t.2.1.2.2.1 t.2.2.1) i_Trust_advances.out i_Trust_advances.ps
def i_Trust_advances.E : Env := ⟨tt, lkF [(121, i_Trust_last.fi), (125, i_grows.fi)], 58, 0, [], []⟩
def i_Trust_advances.sh1 : SK := ⟨[.v (.one (.slv [3] .str)), .v (.one (.bptr 0 0)), .v (.one (.bptr 1 0)), .v (.one (.bptr 2 0))], [.box [.str, .bool, .int .i64, .str, .str], .box [.int .i64, .str, .str], .box [.int .i64, .str, .str]]⟩
def i_Trust_advances.sh1n : SK := ⟨[.v (.one (.slv [3] .str)), .v (.one (.bptr 0 0)), .v (.one (.bptr 1 0)), .v (.one (.bptr 2 0)), .v (.one (.bool))], [.box [.str, .bool, .int .i64, .str, .str], .box [.int .i64, .str, .str], .box [.int .i64, .str, .str]]⟩
def i_Trust_advances.ko1 : Ex → List CastAt × List Nat
  | .nrm => ([], [2, 3, 4, 7, 10])
  | .ret => ([], [])
  | .ext i => ([], [])
def i_Trust_advances.G1 (R : Type) (t : i_Trust_advances.sh1.T) (K : Ex → Kp → Option R) : Option R := i_Trust_advances.j1 (fun y0 y1 y2 y3 y4 y5 y6 y7 y8 y9 y10 y11 y12 => K .nrm (SK.enc i_Trust_advances.sh1n ((y0, (), (), (), y1, ()), ((y2, y3, y4, y5, y6, ()), (y7, y8, y9, ()), (y10, y11, y12, ()), ())))) t.1.1 t.2.1.1 t.2.1.2.1 t.2.1.2.2.1 t.2.1.2.2.2.1 t.2.1.2.2.2.2.1 t.2.2.1.1 t.2.2.1.2.1 t.2.2.1.2.2.1 t.2.2.2.1.1 t.2.2.2.1.2.1 t.2.2.2.1.2.2.1
def i_Trust_advances.S1 : Sum := ⟨([], [2, 3, 4, 7]), sumF i_Trust_advances.sh1 (i_Trust_advances.G1), i_Trust_advances.ko1⟩
theorem i_Trust_advances.ok1 (hE : EOk Tryz.prog (i_Trust_advances.E)) : SumOk Tryz.prog i_Trust_advances.E (cL (cB (cL (cR (cR (bodyOf Tryz.f79)))))) (i_Trust_advances.S1) := by
  have hh : HintOk Tryz.prog i_Trust_advances.E (cL (cB (cL (cR (cR (bodyOf Tryz.f79)))))) (.a) := HintOk.n1 (Q := True) (by kernel_rfl) trivial
  exact sumS (kin := ([], [2, 3, 4, 7])) (kout := i_Trust_advances.ko1) (sh := i_Trust_advances.sh1) (F := i_Trust_advances.G1) (ops_ok (hE.gv _)) (by kernel_rfl) hh (fun R t K => by kernel_rfl)
def i_Trust_advances.sh2 : SK := ⟨[.v (.one (.slv [3] .str)), .v (.one (.bptr 0 0)), .v (.one (.bptr 1 0)), .v (.one (.bptr 2 0))], [.box [.str, .bool, .int .i64, .str, .str], .box [.int .i64, .str, .str], .box [.int .i64, .str, .str]]⟩
def i_Trust_advances.sh2n : SK := ⟨[.v (.one (.slv [3] .str)), .v (.one (.bptr 0 0)), .v (.one (.bptr 1 0)), .v (.one (.bptr 2 0)), .v (.one (.bool))], [.box [.str, .bool, .int .i64, .str, .str], .box [.int .i64, .str, .str], .box [.int .i64, .str, .str]]⟩
def i_Trust_advances.ko2 : Ex → List CastAt × List Nat
  | .nrm => ([], [2, 3, 4, 7, 20])
  | .ret => ([], [])
  | .ext i => ([], [])
def i_Trust_advances.G2 (R : Type) (t : i_Trust_advances.sh2.T) (K : Ex → Kp → Option R) : Option R := i_Trust_advances.j2 (fun y0 y1 y2 y3 y4 y5 y6 y7 y8 y9 y10 y11 y12 => K .nrm (SK.enc i_Trust_advances.sh2n ((y0, (), (), (), y1, ()), ((y2, y3, y4, y5, y6, ()), (y7, y8, y9, ()), (y10, y11, y12, ()), ())))) t.1.1 t.2.1.1 t.2.1.2.1 t.2.1.2.2.1 t.2.1.2.2.2.1 t.2.1.2.2.2.2.1 t.2.2.1.1 t.2.2.1.2.1 t.2.2.1.2.2.1 t.2.2.2.1.1 t.2.2.2.1.2.1 t.2.2.2.1.2.2.1
def i_Trust_advances.S2 : Sum := ⟨([], [2, 3, 4, 7]), sumF i_Trust_advances.sh2 (i_Trust_advances.G2), i_Trust_advances.ko2⟩
theorem i_Trust_advances.ok2 (hE : EOk Tryz.prog (i_Trust_advances.E)) : SumOk Tryz.prog i_Trust_advances.E (cL (cR (cR (cB (cL (cR (cR (bodyOf Tryz.f79)))))))) (i_Trust_advances.S2) := by
  have hh : HintOk Tryz.prog i_Trust_advances.E (cL (cR (cR (cB (cL (cR (cR (bodyOf Tryz.f79)))))))) (.a) := HintOk.n1 (Q := True) (by kernel_rfl) trivial
  exact sumS (kin := ([], [2, 3, 4, 7])) (kout := i_Trust_advances.ko2) (sh := i_Trust_advances.sh2) (F := i_Trust_advances.G2) (ops_ok (hE.gv _)) (by kernel_rfl) hh (fun R t K => by kernel_rfl)
def i_Trust_advances.sh3 : SK := ⟨[.v (.one (.slv [3] .str)), .v (.one (.bptr 0 0)), .v (.one (.bptr 1 0)), .v (.one (.bptr 2 0))], [.box [.str, .bool, .int .i64, .str, .str], .box [.int .i64, .str, .str], .box [.int .i64, .str, .str]]⟩
def i_Trust_advances.sh3n : SK := ⟨[.v (.one (.slv [3] .str)), .v (.one (.bptr 0 0)), .v (.one (.bptr 1 0)), .v (.one (.bool))], [.box [.int .i64, .str, .str], .box [.int .i64, .str, .str]]⟩
def i_Trust_advances.ko3 : Ex → List CastAt × List Nat
  | .nrm => ([], [2, 4, 7, 35])
  | .ret => ([], [])
  | .ext i => ([], [])
def i_Trust_advances.G3 (R : Type) (t : i_Trust_advances.sh3.T) (K : Ex → Kp → Option R) : Option R := i_Trust_advances.j3 (fun y0 y1 y2 y3 y4 y5 y6 y7 => K .nrm (SK.enc i_Trust_advances.sh3n ((y0, (), (), y1, ()), ((y2, y3, y4, ()), (y5, y6, y7, ()), ())))) t.1.1 t.2.1.1 t.2.1.2.1 t.2.1.2.2.1 t.2.1.2.2.2.1 t.2.1.2.2.2.2.1 t.2.2.1.1 t.2.2.1.2.1 t.2.2.1.2.2.1 t.2.2.2.1.1 t.2.2.2.1.2.1 t.2.2.2.1.2.2.1
def i_Trust_advances.S3 : Sum := ⟨([], [2, 3, 4, 7]), sumF i_Trust_advances.sh3 (i_Trust_advances.G3), i_Trust_advances.ko3⟩
theorem i_Trust_advances.ok3 (hE : EOk Tryz.prog (i_Trust_advances.E)) : SumOk Tryz.prog i_Trust_advances.E (cL (cR (cR (cR (cR (cB (cL (cR (cR (bodyOf Tryz.f79)))))))))) (i_Trust_advances.S3) := by
  have hh : HintOk Tryz.prog i_Trust_advances.E (cL (cR (cR (cR (cR (cB (cL (cR (cR (bodyOf Tryz.f79)))))))))) (.a) := HintOk.n1 (Q := True) (by kernel_rfl) trivial
  exact sumS (kin := ([], [2, 3, 4, 7])) (kout := i_Trust_advances.ko3) (sh := i_Trust_advances.sh3) (F := i_Trust_advances.G3) (ops_ok (hE.gv _)) (by kernel_rfl) hh (fun R t K => by kernel_rfl)
theorem i_Trust_advances.hok (hE : EOk Tryz.prog (i_Trust_advances.E)) : HintOk Tryz.prog i_Trust_advances.E (bodyOf Tryz.f79) (.n (.a) (.n (.a) (.n (.b (.n (.s (i_Trust_advances.S1)) (.n (.a) (.n (.s (i_Trust_advances.S2)) (.n (.a) (.n (.s (i_Trust_advances.S3)) (.a))))))) (.a)))) := HintOk.n1 (Q := (True) ∧ ((True) ∧ (((SumOk Tryz.prog i_Trust_advances.E (cL (cB (cL (cR (cR (bodyOf Tryz.f79)))))) (i_Trust_advances.S1)) ∧ ((True) ∧ ((SumOk Tryz.prog i_Trust_advances.E (cL (cR (cR (cB (cL (cR (cR (bodyOf Tryz.f79)))))))) (i_Trust_advances.S2)) ∧ ((True) ∧ ((SumOk Tryz.prog i_Trust_advances.E (cL (cR (cR (cR (cR (cB (cL (cR (cR (bodyOf Tryz.f79)))))))))) (i_Trust_advances.S3)) ∧ (True)))))) ∧ (True)))) (by kernel_rfl) ⟨trivial, ⟨trivial, ⟨⟨(i_Trust_advances.ok1 hE), ⟨trivial, ⟨(i_Trust_advances.ok2 hE), ⟨trivial, ⟨(i_Trust_advances.ok3 hE), trivial⟩⟩⟩⟩⟩, trivial⟩⟩⟩
theorem i_Trust_advances.hE : EOk Tryz.prog (i_Trust_advances.E) := EOk.of ttOk (⟨i_Trust_last.fok, ⟨i_grows.fok, trivial⟩⟩)
theorem i_Trust_advances.fok : FOk Tryz.prog 79 i_Trust_advances.fi :=
  fokS (E := i_Trust_advances.E) (wy := ⟨[[none]], [[], [], []], []⟩) (h := (fun gs => .n (.a) (.n (.a) (.n (.b (.n (.s (i_Trust_advances.S1)) (.n (.a) (.n (.s (i_Trust_advances.S2)) (.n (.a) (.n (.s (i_Trust_advances.S3)) (.a))))))) (.a))))) (G := fun t g => i_Trust_advances.F (fun y0 => g y0) t.1.1 t.1.2.1 t.1.2.2.1 t.1.2.2.2.1 t.1.2.2.2.2.1 t.2.1.1 t.2.1.2.1 t.2.1.2.2.1 t.2.2.1) (by kernel_rfl) i_Trust_advances.hE Tryz.func79 (by kernel_rfl) rfl (Nat.le_refl _) (fun t => HintOk.n1 (by kernel_rfl) (i_Trust_advances.hok i_Trust_advances.hE)) (fun t g => i_Trust_advances_nat g t.1.1 t.1.2.1 t.1.2.2.1 t.1.2.2.2.1 t.1.2.2.2.2.1 t.2.1.1 t.2.1.2.1 t.2.1.2.2.1 t.2.2.1) (fun t => by kernel_rfl)
/-! loop.example_g00220_impl.Advance -/
def i_Advance.F {R : Type} (kk : ByteArray → Bool → Int → ByteArray → ByteArray → Int → Option R) (t_Key : ByteArray) (t_Has : Bool) (t_Size : Int) (t_Log : ByteArray) (t_Map : ByteArray) (s_Size : Int) (s_Log : ByteArray) (s_Map : ByteArray) (x_Index : Int) (x_Parts : List ByteArray) (x_Path : List ByteArray) (proof : List ByteArray) : Option R :=
  (i_proofCode proof []).bind fun r =>
  cond (r != (0 : Int)) (kk ByteArray.empty false (0 : Int) ByteArray.empty ByteArray.empty r) (
    (i_TrustOK t_Key t_Has t_Size t_Log t_Map).bind fun r1 =>
    cond (!r1) (kk ByteArray.empty false (0 : Int) ByteArray.empty ByteArray.empty (1 : Int)) (
      (i_statementOK s_Size s_Log s_Map).bind fun r2 =>
      cond (!r2) (kk ByteArray.empty false (0 : Int) ByteArray.empty ByteArray.empty (1 : Int)) (
        (i_Statement_text s_Size s_Log s_Map).bind fun r3 =>
        (i_VerifySignature t_Key r3 x_Index x_Parts x_Path).bind fun r4 =>
        cond (r4 != (0 : Int)) (kk t_Key t_Has t_Size t_Log t_Map r4) (
          (i_Trust_advances t_Key t_Has t_Size t_Log t_Map s_Size s_Log s_Map proof).bind fun r5 =>
          cond (r5 != (0 : Int)) (kk t_Key t_Has t_Size t_Log t_Map r5) (kk t_Key true s_Size s_Log s_Map (0 : Int))))))
theorem i_Advance.F_nat {R S : Type} (g : R → Option S) (kk : ByteArray → Bool → Int → ByteArray → ByteArray → Int → Option R) (t_Key : ByteArray) (t_Has : Bool) (t_Size : Int) (t_Log : ByteArray) (t_Map : ByteArray) (s_Size : Int) (s_Log : ByteArray) (s_Map : ByteArray) (x_Index : Int) (x_Parts : List ByteArray) (x_Path : List ByteArray) (proof : List ByteArray) : i_Advance.F (fun y0 y1 y2 y3 y4 y5 => (kk y0 y1 y2 y3 y4 y5).bind g) t_Key t_Has t_Size t_Log t_Map s_Size s_Log s_Map x_Index x_Parts x_Path proof = (i_Advance.F kk t_Key t_Has t_Size t_Log t_Map s_Size s_Log s_Map x_Index x_Parts x_Path proof).bind g := by
  simp only [i_Advance.F, grd_bind, cnd_bind, bnd_bind, non_bind]
def i_Advance (t_Key : ByteArray) (t_Has : Bool) (t_Size : Int) (t_Log : ByteArray) (t_Map : ByteArray) (s_Size : Int) (s_Log : ByteArray) (s_Map : ByteArray) (x_Index : Int) (x_Parts : List ByteArray) (x_Path : List ByteArray) (proof : List ByteArray) : Option (ByteArray × Bool × Int × ByteArray × ByteArray × Int) := i_Advance.F (fun y0 y1 y2 y3 y4 y5 => some (y0, y1, y2, y3, y4, y5)) t_Key t_Has t_Size t_Log t_Map s_Size s_Log s_Map x_Index x_Parts x_Path proof
theorem i_Advance_nat {S : Type} (g : (ByteArray × Bool × Int × ByteArray × ByteArray × Int) → Option S) (t_Key : ByteArray) (t_Has : Bool) (t_Size : Int) (t_Log : ByteArray) (t_Map : ByteArray) (s_Size : Int) (s_Log : ByteArray) (s_Map : ByteArray) (x_Index : Int) (x_Parts : List ByteArray) (x_Path : List ByteArray) (proof : List ByteArray) : i_Advance.F (fun y0 y1 y2 y3 y4 y5 => g (y0, y1, y2, y3, y4, y5)) t_Key t_Has t_Size t_Log t_Map s_Size s_Log s_Map x_Index x_Parts x_Path proof = (i_Advance t_Key t_Has t_Size t_Log t_Map s_Size s_Log s_Map x_Index x_Parts x_Path proof).bind g := i_Advance.F_nat g (fun y0 y1 y2 y3 y4 y5 => some (y0, y1, y2, y3, y4, y5)) t_Key t_Has t_Size t_Log t_Map s_Size s_Log s_Map x_Index x_Parts x_Path proof
def i_Advance.out : (ByteArray × Bool × Int × ByteArray × ByteArray × Int) → CRes := fun a => ⟨encL SV.enc [.agg [.str, .bool, .int .i64, .str, .str], .one (.int .i64)] ((a.1, a.2.1, a.2.2.1, a.2.2.2.1, a.2.2.2.2.1, ()), a.2.2.2.2.2, ()), [encL SC.enc [] (), encL SC.enc [] (), encL SC.enc [] (), encL SC.enc [] ()]⟩
def i_Advance.ps : List PS := [.val [none, none, none, none, none], .val [none, none, none], .val [none, some (.str, false), some (.str, false)], .val [some (.str, false)]]
def i_Advance.sA : List SA := [.v (.agg [.str, .bool, .int .i64, .str, .str]), .v (.agg [.int .i64, .str, .str]), .v (.agg [.int .i64, .slv [] .str, .slv [] .str]), .v (.one (.slv [] .str))]
def i_Advance.fi : FI := FIs i_Advance.sA (ByteArray × Bool × Int × ByteArray × ByteArray × Int) (fun t => i_Advance t.1.1 t.1.2.1 t.1.2.2.1 t.1.2.2.2.1 t.1.2.2.2.2.1 t.2.1.1 t.2.1.2.1 t.2.1.2.2.1 t.2.2.1.1 t.2.2.1.2.1 t.2.2.1.2.2.1 t.2.2.2.1) i_Advance.out i_Advance.ps
def i_Advance.E : Env := ⟨tt, lkF [(74, i_proofCode.fi), (75, i_TrustOK.fi), (76, i_statementOK.fi), (77, i_VerifySignature.fi), (78, i_Statement_text.fi), (79, i_Trust_advances.fi)], 55, 0, [], []⟩
theorem i_Advance.hok (hE : EOk Tryz.prog (i_Advance.E)) : HintOk Tryz.prog i_Advance.E (bodyOf Tryz.f35) (.a) := HintOk.n1 (Q := True) (by kernel_rfl) trivial
theorem i_Advance.hE : EOk Tryz.prog (i_Advance.E) := EOk.of ttOk (⟨i_proofCode.fok, ⟨i_TrustOK.fok, ⟨i_statementOK.fok, ⟨i_VerifySignature.fok, ⟨i_Statement_text.fok, ⟨i_Trust_advances.fok, trivial⟩⟩⟩⟩⟩⟩)
theorem i_Advance.fok : FOk Tryz.prog 35 i_Advance.fi :=
  fokS (E := i_Advance.E) (wy := ⟨[[none, none, none, none, none], [none]], [[], [], [], []], []⟩) (h := (fun gs => .a)) (G := fun t g => i_Advance.F (fun y0 y1 y2 y3 y4 y5 => g (y0, y1, y2, y3, y4, y5)) t.1.1 t.1.2.1 t.1.2.2.1 t.1.2.2.2.1 t.1.2.2.2.2.1 t.2.1.1 t.2.1.2.1 t.2.1.2.2.1 t.2.2.1.1 t.2.2.1.2.1 t.2.2.1.2.2.1 t.2.2.2.1) (by kernel_rfl) i_Advance.hE Tryz.func35 (by kernel_rfl) rfl (Nat.le_refl _) (fun t => HintOk.n1 (by kernel_rfl) (i_Advance.hok i_Advance.hE)) (fun t g => i_Advance_nat g t.1.1 t.1.2.1 t.1.2.2.1 t.1.2.2.2.1 t.1.2.2.2.2.1 t.2.1.1 t.2.1.2.1 t.2.1.2.2.1 t.2.2.1.1 t.2.2.1.2.1 t.2.2.1.2.2.1 t.2.2.2.1) (fun t => by kernel_rfl)
/-! loop.example_g00220_laws.eqTrust -/
def l_eqTrust.F {R : Type} (kk : Bool → Option R) (a_Key : ByteArray) (a_Has : Bool) (a_Size : Int) (a_Log : ByteArray) (a_Map : ByteArray) (b_Key : ByteArray) (b_Has : Bool) (b_Size : Int) (b_Log : ByteArray) (b_Map : ByteArray) : Option R :=
  cond (!(sEq a_Key b_Key)) (kk false) (
    cond (!(a_Has == b_Has)) (kk false) (
      cond (a_Size != b_Size) (kk false) (cond (!(sEq a_Log b_Log)) (kk false) (cond (!(sEq a_Map b_Map)) (kk false) (kk true)))))
theorem l_eqTrust.F_nat {R S : Type} (g : R → Option S) (kk : Bool → Option R) (a_Key : ByteArray) (a_Has : Bool) (a_Size : Int) (a_Log : ByteArray) (a_Map : ByteArray) (b_Key : ByteArray) (b_Has : Bool) (b_Size : Int) (b_Log : ByteArray) (b_Map : ByteArray) : l_eqTrust.F (fun y0 => (kk y0).bind g) a_Key a_Has a_Size a_Log a_Map b_Key b_Has b_Size b_Log b_Map = (l_eqTrust.F kk a_Key a_Has a_Size a_Log a_Map b_Key b_Has b_Size b_Log b_Map).bind g := by
  simp only [l_eqTrust.F, grd_bind, cnd_bind, bnd_bind, non_bind]
def l_eqTrust (a_Key : ByteArray) (a_Has : Bool) (a_Size : Int) (a_Log : ByteArray) (a_Map : ByteArray) (b_Key : ByteArray) (b_Has : Bool) (b_Size : Int) (b_Log : ByteArray) (b_Map : ByteArray) : Option Bool := l_eqTrust.F (fun y0 => some y0) a_Key a_Has a_Size a_Log a_Map b_Key b_Has b_Size b_Log b_Map
theorem l_eqTrust_nat {S : Type} (g : Bool → Option S) (a_Key : ByteArray) (a_Has : Bool) (a_Size : Int) (a_Log : ByteArray) (a_Map : ByteArray) (b_Key : ByteArray) (b_Has : Bool) (b_Size : Int) (b_Log : ByteArray) (b_Map : ByteArray) : l_eqTrust.F (fun y0 => g y0) a_Key a_Has a_Size a_Log a_Map b_Key b_Has b_Size b_Log b_Map = (l_eqTrust a_Key a_Has a_Size a_Log a_Map b_Key b_Has b_Size b_Log b_Map).bind g := l_eqTrust.F_nat g (fun y0 => some y0) a_Key a_Has a_Size a_Log a_Map b_Key b_Has b_Size b_Log b_Map
def l_eqTrust.out : Bool → CRes := fun a => ⟨encL SV.enc [.one (.bool)] (a, ()), [encL SC.enc [] (), encL SC.enc [] ()]⟩
def l_eqTrust.ps : List PS := [.val [none, none, none, none, none], .val [none, none, none, none, none]]
def l_eqTrust.sA : List SA := [.v (.agg [.str, .bool, .int .i64, .str, .str]), .v (.agg [.str, .bool, .int .i64, .str, .str])]
def l_eqTrust.fi : FI := FIs l_eqTrust.sA (Bool) (fun t => l_eqTrust t.1.1 t.1.2.1 t.1.2.2.1 t.1.2.2.2.1 t.1.2.2.2.2.1 t.2.1.1 t.2.1.2.1 t.2.1.2.2.1 t.2.1.2.2.2.1 t.2.1.2.2.2.2.1) l_eqTrust.out l_eqTrust.ps
def l_eqTrust.E : Env := ⟨tt, lkF [], 30, 0, [], []⟩
theorem l_eqTrust.hok (hE : EOk Tryz.prog (l_eqTrust.E)) : HintOk Tryz.prog l_eqTrust.E (bodyOf Tryz.f36) (.a) := HintOk.n1 (Q := True) (by kernel_rfl) trivial
theorem l_eqTrust.hE : EOk Tryz.prog (l_eqTrust.E) := EOk.of ttOk (trivial)
theorem l_eqTrust.fok : FOk Tryz.prog 36 l_eqTrust.fi :=
  fokS (E := l_eqTrust.E) (wy := ⟨[[none]], [[], []], []⟩) (h := (fun gs => .a)) (G := fun t g => l_eqTrust.F (fun y0 => g y0) t.1.1 t.1.2.1 t.1.2.2.1 t.1.2.2.2.1 t.1.2.2.2.2.1 t.2.1.1 t.2.1.2.1 t.2.1.2.2.1 t.2.1.2.2.2.1 t.2.1.2.2.2.2.1) (by kernel_rfl) l_eqTrust.hE Tryz.func36 (by kernel_rfl) rfl (Nat.le_refl _) (fun t => HintOk.n1 (by kernel_rfl) (l_eqTrust.hok l_eqTrust.hE)) (fun t g => l_eqTrust_nat g t.1.1 t.1.2.1 t.1.2.2.1 t.1.2.2.2.1 t.1.2.2.2.2.1 t.2.1.1 t.2.1.2.1 t.2.1.2.2.1 t.2.1.2.2.2.1 t.2.1.2.2.2.2.1) (fun t => by kernel_rfl)
/-! loop.example_g00220_laws.eqStringS -/
def l_eqStringS.l1 {R : Type} (kke0 : Option R) (kkr : Bool → Option R) : Nat → List ByteArray → List ByteArray → Int → Option R
  | 0, _, _, _ => none
  | n + 1, a, b, i =>
    cond (decide (i < (List.length a : Int))) (
      grd (gIx i (List.length a)) <|
      grd (gIx i (List.length b)) <|
      cond (!(sEq (rdE (.str : Kd) a (Int.toNat i)) (rdE (.str : Kd) b (Int.toNat i)))) (kkr false) (l_eqStringS.l1 kke0 kkr n a b (IntKind.wrap .i64 (i + (1 : Int))))) (kke0)
theorem l_eqStringS.l1_nat {R S : Type} (g : R → Option S) (kke0 : Option R) (kkr : Bool → Option R) : ∀ (n : Nat) (a : List ByteArray) (b : List ByteArray) (i : Int), l_eqStringS.l1 (kke0.bind g) (fun y0 => (kkr y0).bind g) n a b i = (l_eqStringS.l1 kke0 kkr n a b i).bind g := by
  intro n
  induction n with
  | zero => intros; rfl
  | succ n ih => intros; simp only [l_eqStringS.l1, grd_bind, cnd_bind, bnd_bind, non_bind, ih]
def l_eqStringS.F {R : Type} (kk : Bool → Option R) (a : List ByteArray) (b : List ByteArray) : Option R :=
  cond ((List.length a : Int) != (List.length b : Int)) (kk false) (l_eqStringS.l1 (kk true) (fun b1 => kk b1) fuel a b (0 : Int))
theorem l_eqStringS.F_nat {R S : Type} (g : R → Option S) (kk : Bool → Option R) (a : List ByteArray) (b : List ByteArray) : l_eqStringS.F (fun y0 => (kk y0).bind g) a b = (l_eqStringS.F kk a b).bind g := by
  simp only [l_eqStringS.F, grd_bind, cnd_bind, bnd_bind, non_bind, ← l_eqStringS.l1_nat]
def l_eqStringS (a : List ByteArray) (b : List ByteArray) : Option Bool := l_eqStringS.F (fun y0 => some y0) a b
theorem l_eqStringS_nat {S : Type} (g : Bool → Option S) (a : List ByteArray) (b : List ByteArray) : l_eqStringS.F (fun y0 => g y0) a b = (l_eqStringS a b).bind g := l_eqStringS.F_nat g (fun y0 => some y0) a b
def l_eqStringS.out : Bool → CRes := fun a => ⟨encL SV.enc [.one (.bool)] (a, ()), [encL SC.enc [] (), encL SC.enc [] ()]⟩
def l_eqStringS.ps : List PS := [.val [some (.str, false)], .val [some (.str, false)]]
def l_eqStringS.sA : List SA := [.v (.one (.slv [] .str)), .v (.one (.slv [] .str))]
def l_eqStringS.fi : FI := FIs l_eqStringS.sA (Bool) (fun t => l_eqStringS t.1 t.2.1) l_eqStringS.out l_eqStringS.ps
def l_eqStringS.E : Env := ⟨tt, lkF [], 26, 0, [], []⟩
def l_eqStringS.sh1 : SK := ⟨[.v (.one (.slv [1] .str)), .v (.one (.slv [2] .str)), .v (.one (.int .i64))], []⟩
def l_eqStringS.sh1e0 : SK := ⟨[], []⟩
def l_eqStringS.sh1r : SK := ⟨[.v (.one (.bool))], []⟩
def l_eqStringS.ko1 : Ex → List CastAt × List Nat
  | .nrm => ([], [])
  | .ret => ([], [4])
  | .ext i => cond (Nat.beq i 0) ([], []) ([], [])
def l_eqStringS.G1 (n : Nat) (R : Type) (t : l_eqStringS.sh1.T) (K : Ex → Kp → Option R) : Option R := l_eqStringS.l1 (K (.ext 0) (SK.enc l_eqStringS.sh1e0 ((), ()))) (fun y0 => K .ret (SK.enc l_eqStringS.sh1r ((y0, ()), ()))) n t.1.1 t.1.2.1 t.1.2.2.1
def l_eqStringS.S1 : Sum := ⟨([], [0, 1, 5]), sumF l_eqStringS.sh1 (l_eqStringS.G1 fuel), l_eqStringS.ko1⟩
theorem l_eqStringS.ok1 (hE : EOk Tryz.prog (l_eqStringS.E)) : SumOk Tryz.prog l_eqStringS.E (cB (cR (cL (cR (cR (bodyOf Tryz.f38)))))) (l_eqStringS.S1) := by
  have hh : HintOk Tryz.prog l_eqStringS.E (cB (cB (cR (cL (cR (cR (bodyOf Tryz.f38))))))) (.a) := HintOk.n1 (Q := True) (by kernel_rfl) trivial
  have h := loopS (kin := ([], [0, 1, 5])) (kout := l_eqStringS.ko1) (sh := l_eqStringS.sh1) (F := l_eqStringS.G1) (ops_ok (hE.gv _)) (by kernel_rfl) hh (fun _ _ _ => rfl) (fun n R t K => by kernel_rfl) fuel
  exact HintOk.n1 (c := (cB (cR (cL (cR (cR (bodyOf Tryz.f38))))))) (h := .s (l_eqStringS.S1)) (P := Tryz.prog) (E := l_eqStringS.E) (by kernel_rfl) h
theorem l_eqStringS.hok (hE : EOk Tryz.prog (l_eqStringS.E)) : HintOk Tryz.prog l_eqStringS.E (bodyOf Tryz.f38) (.n (.a) (.n (.a) (.n (.n (.a) (.b (.s (l_eqStringS.S1)))) (.a)))) := HintOk.n1 (Q := (True) ∧ ((True) ∧ (((True) ∧ (SumOk Tryz.prog l_eqStringS.E (cB (cR (cL (cR (cR (bodyOf Tryz.f38)))))) (l_eqStringS.S1))) ∧ (True)))) (by kernel_rfl) ⟨trivial, ⟨trivial, ⟨⟨trivial, (l_eqStringS.ok1 hE)⟩, trivial⟩⟩⟩
theorem l_eqStringS.hE : EOk Tryz.prog (l_eqStringS.E) := EOk.of ttOk (trivial)
theorem l_eqStringS.fok : FOk Tryz.prog 38 l_eqStringS.fi :=
  fokS (E := l_eqStringS.E) (wy := ⟨[[none]], [[], []], []⟩) (h := (fun gs => .n (.a) (.n (.a) (.n (.n (.a) (.b (.s (l_eqStringS.S1)))) (.a))))) (G := fun t g => l_eqStringS.F (fun y0 => g y0) t.1 t.2.1) (by kernel_rfl) l_eqStringS.hE Tryz.func38 (by kernel_rfl) rfl (Nat.le_refl _) (fun t => HintOk.n1 (by kernel_rfl) (l_eqStringS.hok l_eqStringS.hE)) (fun t g => l_eqStringS_nat g t.1 t.2.1) (fun t => by kernel_rfl)
/-! loop.example_g00220_laws.eqSignature -/
def l_eqSignature.F {R : Type} (kk : Bool → Option R) (a_Index : Int) (a_Parts : List ByteArray) (a_Path : List ByteArray) (b_Index : Int) (b_Parts : List ByteArray) (b_Path : List ByteArray) : Option R :=
  cond (a_Index != b_Index) (kk false) (
    (l_eqStringS a_Parts b_Parts).bind fun r =>
    cond (!r) (kk false) (
      (l_eqStringS a_Path b_Path).bind fun r1 =>
      cond (!r1) (kk false) (kk true)))
theorem l_eqSignature.F_nat {R S : Type} (g : R → Option S) (kk : Bool → Option R) (a_Index : Int) (a_Parts : List ByteArray) (a_Path : List ByteArray) (b_Index : Int) (b_Parts : List ByteArray) (b_Path : List ByteArray) : l_eqSignature.F (fun y0 => (kk y0).bind g) a_Index a_Parts a_Path b_Index b_Parts b_Path = (l_eqSignature.F kk a_Index a_Parts a_Path b_Index b_Parts b_Path).bind g := by
  simp only [l_eqSignature.F, grd_bind, cnd_bind, bnd_bind, non_bind]
def l_eqSignature (a_Index : Int) (a_Parts : List ByteArray) (a_Path : List ByteArray) (b_Index : Int) (b_Parts : List ByteArray) (b_Path : List ByteArray) : Option Bool := l_eqSignature.F (fun y0 => some y0) a_Index a_Parts a_Path b_Index b_Parts b_Path
theorem l_eqSignature_nat {S : Type} (g : Bool → Option S) (a_Index : Int) (a_Parts : List ByteArray) (a_Path : List ByteArray) (b_Index : Int) (b_Parts : List ByteArray) (b_Path : List ByteArray) : l_eqSignature.F (fun y0 => g y0) a_Index a_Parts a_Path b_Index b_Parts b_Path = (l_eqSignature a_Index a_Parts a_Path b_Index b_Parts b_Path).bind g := l_eqSignature.F_nat g (fun y0 => some y0) a_Index a_Parts a_Path b_Index b_Parts b_Path
def l_eqSignature.out : Bool → CRes := fun a => ⟨encL SV.enc [.one (.bool)] (a, ()), [encL SC.enc [] (), encL SC.enc [] ()]⟩
def l_eqSignature.ps : List PS := [.val [none, some (.str, false), some (.str, false)], .val [none, some (.str, false), some (.str, false)]]
def l_eqSignature.sA : List SA := [.v (.agg [.int .i64, .slv [] .str, .slv [] .str]), .v (.agg [.int .i64, .slv [] .str, .slv [] .str])]
def l_eqSignature.fi : FI := FIs l_eqSignature.sA (Bool) (fun t => l_eqSignature t.1.1 t.1.2.1 t.1.2.2.1 t.2.1.1 t.2.1.2.1 t.2.1.2.2.1) l_eqSignature.out l_eqSignature.ps
def l_eqSignature.E : Env := ⟨tt, lkF [(38, l_eqStringS.fi)], 22, 0, [], []⟩
theorem l_eqSignature.hok (hE : EOk Tryz.prog (l_eqSignature.E)) : HintOk Tryz.prog l_eqSignature.E (bodyOf Tryz.f37) (.a) := HintOk.n1 (Q := True) (by kernel_rfl) trivial
theorem l_eqSignature.hE : EOk Tryz.prog (l_eqSignature.E) := EOk.of ttOk (⟨l_eqStringS.fok, trivial⟩)
theorem l_eqSignature.fok : FOk Tryz.prog 37 l_eqSignature.fi :=
  fokS (E := l_eqSignature.E) (wy := ⟨[[none]], [[], []], []⟩) (h := (fun gs => .a)) (G := fun t g => l_eqSignature.F (fun y0 => g y0) t.1.1 t.1.2.1 t.1.2.2.1 t.2.1.1 t.2.1.2.1 t.2.1.2.2.1) (by kernel_rfl) l_eqSignature.hE Tryz.func37 (by kernel_rfl) rfl (Nat.le_refl _) (fun t => HintOk.n1 (by kernel_rfl) (l_eqSignature.hok l_eqSignature.hE)) (fun t g => l_eqSignature_nat g t.1.1 t.1.2.1 t.1.2.2.1 t.2.1.1 t.2.1.2.1 t.2.1.2.2.1) (fun t => by kernel_rfl)
/-! loop.example_g00220_laws.FnExactAdvance -/
def l_FnExactAdvance.F {R : Type} (kk : Bool → Option R) (aT_Key : ByteArray) (aT_Has : Bool) (aT_Size : Int) (aT_Log : ByteArray) (aT_Map : ByteArray) (aS_Size : Int) (aS_Log : ByteArray) (aS_Map : ByteArray) (aX_Index : Int) (aX_Parts : List ByteArray) (aX_Path : List ByteArray) (aProof : List ByteArray) : Option R :=
  (l_szTrust aT_Key aT_Has aT_Size aT_Log aT_Map (1048576 : Int)).bind fun r =>
  cond (decide (r < (0 : Int))) (kk true) (
    (l_szStatement aS_Size aS_Log aS_Map r).bind fun r1 =>
    cond (decide (r1 < (0 : Int))) (kk true) (
      (l_szSignature aX_Index aX_Parts aX_Path r1).bind fun r2 =>
      cond (decide (r2 < (0 : Int))) (kk true) (
        (l_szStringS aProof r2).bind fun r3 =>
        cond (decide (r3 < (0 : Int))) (kk true) (
          (l_toTrust aT_Key aT_Has aT_Size aT_Log aT_Map).bind fun r4 =>
          (l_toStatement aS_Size aS_Log aS_Map).bind fun r5 =>
          (l_toSignature aX_Index aX_Parts aX_Path).bind fun r6 =>
          (l_toStringS aProof).bind fun r7 =>
          (s_Advance r4.1 r4.2.1 r4.2.2.1 r4.2.2.2.1 r4.2.2.2.2 r5.1 r5.2.1 r5.2.2 r6.1 r6.2.1 r6.2.2 r7).bind fun r8 =>
          (l_toSignature aX_Index aX_Parts aX_Path).bind fun r9 =>
          (l_toStringS aProof).bind fun r10 =>
          (l_toTrust aT_Key aT_Has aT_Size aT_Log aT_Map).bind fun r11 =>
          (l_toStatement aS_Size aS_Log aS_Map).bind fun r12 =>
          (i_Advance r11.1 r11.2.1 r11.2.2.1 r11.2.2.2.1 r11.2.2.2.2 r12.1 r12.2.1 r12.2.2 r9.1 r9.2.1 r9.2.2 r10).bind fun r13 =>
          (l_eqTrust r13.1 r13.2.1 r13.2.2.1 r13.2.2.2.1 r13.2.2.2.2.1 r8.1 r8.2.1 r8.2.2.1 r8.2.2.2.1 r8.2.2.2.2.1).bind fun r14 =>
          cond (!r14) (kk false) (
            cond (r13.2.2.2.2.2 != r8.2.2.2.2.2) (kk false) (
              (l_toSignature aX_Index aX_Parts aX_Path).bind fun r15 =>
              (l_eqSignature r9.1 r9.2.1 r9.2.2 r15.1 r15.2.1 r15.2.2).bind fun r16 =>
              cond (!r16) (kk false) (
                (l_toStringS aProof).bind fun r17 =>
                (l_eqStringS r10 r17).bind fun r18 =>
                cond (!r18) (kk false) (kk true))))))))
theorem l_FnExactAdvance.F_nat {R S : Type} (g : R → Option S) (kk : Bool → Option R) (aT_Key : ByteArray) (aT_Has : Bool) (aT_Size : Int) (aT_Log : ByteArray) (aT_Map : ByteArray) (aS_Size : Int) (aS_Log : ByteArray) (aS_Map : ByteArray) (aX_Index : Int) (aX_Parts : List ByteArray) (aX_Path : List ByteArray) (aProof : List ByteArray) : l_FnExactAdvance.F (fun y0 => (kk y0).bind g) aT_Key aT_Has aT_Size aT_Log aT_Map aS_Size aS_Log aS_Map aX_Index aX_Parts aX_Path aProof = (l_FnExactAdvance.F kk aT_Key aT_Has aT_Size aT_Log aT_Map aS_Size aS_Log aS_Map aX_Index aX_Parts aX_Path aProof).bind g := by
  simp only [l_FnExactAdvance.F, grd_bind, cnd_bind, bnd_bind, non_bind]
def l_FnExactAdvance (aT_Key : ByteArray) (aT_Has : Bool) (aT_Size : Int) (aT_Log : ByteArray) (aT_Map : ByteArray) (aS_Size : Int) (aS_Log : ByteArray) (aS_Map : ByteArray) (aX_Index : Int) (aX_Parts : List ByteArray) (aX_Path : List ByteArray) (aProof : List ByteArray) : Option Bool := l_FnExactAdvance.F (fun y0 => some y0) aT_Key aT_Has aT_Size aT_Log aT_Map aS_Size aS_Log aS_Map aX_Index aX_Parts aX_Path aProof
theorem l_FnExactAdvance_nat {S : Type} (g : Bool → Option S) (aT_Key : ByteArray) (aT_Has : Bool) (aT_Size : Int) (aT_Log : ByteArray) (aT_Map : ByteArray) (aS_Size : Int) (aS_Log : ByteArray) (aS_Map : ByteArray) (aX_Index : Int) (aX_Parts : List ByteArray) (aX_Path : List ByteArray) (aProof : List ByteArray) : l_FnExactAdvance.F (fun y0 => g y0) aT_Key aT_Has aT_Size aT_Log aT_Map aS_Size aS_Log aS_Map aX_Index aX_Parts aX_Path aProof = (l_FnExactAdvance aT_Key aT_Has aT_Size aT_Log aT_Map aS_Size aS_Log aS_Map aX_Index aX_Parts aX_Path aProof).bind g := l_FnExactAdvance.F_nat g (fun y0 => some y0) aT_Key aT_Has aT_Size aT_Log aT_Map aS_Size aS_Log aS_Map aX_Index aX_Parts aX_Path aProof
def l_FnExactAdvance.out : Bool → CRes := fun a => ⟨encL SV.enc [.one (.bool)] (a, ()), [encL SC.enc [] (), encL SC.enc [] (), encL SC.enc [] (), encL SC.enc [] ()]⟩
def l_FnExactAdvance.ps : List PS := [.val [none, none, none, none, none], .val [none, none, none], .val [none, some (.str, false), some (.str, false)], .val [some (.str, false)]]
def l_FnExactAdvance.sA : List SA := [.v (.agg [.str, .bool, .int .i64, .str, .str]), .v (.agg [.int .i64, .str, .str]), .v (.agg [.int .i64, .slv [] .str, .slv [] .str]), .v (.one (.slv [] .str))]
def l_FnExactAdvance.fi : FI := FIs l_FnExactAdvance.sA (Bool) (fun t => l_FnExactAdvance t.1.1 t.1.2.1 t.1.2.2.1 t.1.2.2.2.1 t.1.2.2.2.2.1 t.2.1.1 t.2.1.2.1 t.2.1.2.2.1 t.2.2.1.1 t.2.2.1.2.1 t.2.2.1.2.2.1 t.2.2.2.1) l_FnExactAdvance.out l_FnExactAdvance.ps
def l_FnExactAdvance.E : Env := ⟨tt, lkF [(26, l_szTrust.fi), (27, l_szStatement.fi), (28, l_szSignature.fi), (29, l_szStringS.fi), (30, s_Advance.fi), (31, l_toTrust.fi), (32, l_toStatement.fi), (33, l_toSignature.fi), (34, l_toStringS.fi), (35, i_Advance.fi), (36, l_eqTrust.fi), (37, l_eqSignature.fi), (38, l_eqStringS.fi)], 81, 0, [], []⟩
theorem l_FnExactAdvance.hok (hE : EOk Tryz.prog (l_FnExactAdvance.E)) : HintOk Tryz.prog l_FnExactAdvance.E (bodyOf Tryz.f5) (.a) := HintOk.n1 (Q := True) (by kernel_rfl) trivial
theorem l_FnExactAdvance.hE : EOk Tryz.prog (l_FnExactAdvance.E) := EOk.of ttOk (⟨l_szTrust.fok, ⟨l_szStatement.fok, ⟨l_szSignature.fok, ⟨l_szStringS.fok, ⟨s_Advance.fok, ⟨l_toTrust.fok, ⟨l_toStatement.fok, ⟨l_toSignature.fok, ⟨l_toStringS.fok, ⟨i_Advance.fok, ⟨l_eqTrust.fok, ⟨l_eqSignature.fok, ⟨l_eqStringS.fok, trivial⟩⟩⟩⟩⟩⟩⟩⟩⟩⟩⟩⟩⟩)
theorem l_FnExactAdvance.fok : FOk Tryz.prog 5 l_FnExactAdvance.fi :=
  fokS (E := l_FnExactAdvance.E) (wy := ⟨[[none]], [[], [], [], []], []⟩) (h := (fun gs => .a)) (G := fun t g => l_FnExactAdvance.F (fun y0 => g y0) t.1.1 t.1.2.1 t.1.2.2.1 t.1.2.2.2.1 t.1.2.2.2.2.1 t.2.1.1 t.2.1.2.1 t.2.1.2.2.1 t.2.2.1.1 t.2.2.1.2.1 t.2.2.1.2.2.1 t.2.2.2.1) (by kernel_rfl) l_FnExactAdvance.hE Tryz.func5 (by kernel_rfl) rfl (Nat.le_refl _) (fun t => HintOk.n1 (by kernel_rfl) (l_FnExactAdvance.hok l_FnExactAdvance.hE)) (fun t g => l_FnExactAdvance_nat g t.1.1 t.1.2.1 t.1.2.2.1 t.1.2.2.2.1 t.1.2.2.2.2.1 t.2.1.1 t.2.1.2.1 t.2.1.2.2.1 t.2.2.1.1 t.2.2.1.2.1 t.2.2.1.2.2.1 t.2.2.2.1) (fun t => by kernel_rfl)
end
end Go.Proofs.YtdpjbeeokimnaaaGreatDoorA
