/-
  Functions of the program, and that the small machine's runs are these. No condition.
  Printed by wip/amp/main.py (a session's own program) out of Lean's print of the program; Lean's kernel checks it.
-/
import Derived.Test.YtdpjbeeokimnaaaXqF0
namespace Go.Proofs.YtdpjbeeokimnaaaA
open Go
noncomputable section
set_option linter.unusedVariables false
set_option linter.unusedSimpArgs false
set_option maxRecDepth 100000

/-! __loop.example_g00220_impl.prover_.inclusion -/
def i_prover_inclusion.F {R : Type} (rc : List ByteArray → Bool → List ByteArray → ByteArray → Int → Int → Option (ByteArray × List ByteArray × Bool × List ByteArray)) (kk : ByteArray → List ByteArray → Bool → List ByteArray → Option R) (p_proof : List ByteArray) (p_bad : Bool) (p_steps : List ByteArray) (leaf : ByteArray) (at_ : Int) (size : Int) : Option R :=
  cond (decide (size ≤ (1 : Int))) (kk leaf p_proof p_bad p_steps) (
    (i_split size).bind fun r =>
    cond (decide (at_ < r)) (
      (rc p_proof p_bad p_steps leaf at_ r).bind fun r1 =>
      (i_prover_next r1.2.1 r1.2.2.1 r1.2.2.2).bind fun r2 =>
      (i_prover_node r2.2.1 r2.2.2.1 r2.2.2.2 r1.1 r2.1).bind fun r3 =>
      kk r3.1 r3.2.1 r3.2.2.1 r3.2.2.2) (
      (rc p_proof p_bad p_steps leaf (IntKind.wrap .i64 (at_ - r)) (IntKind.wrap .i64 (size - r))).bind fun r4 =>
      (i_prover_next r4.2.1 r4.2.2.1 r4.2.2.2).bind fun r5 =>
      (i_prover_node r5.2.1 r5.2.2.1 r5.2.2.2 r5.1 r4.1).bind fun r6 =>
      kk r6.1 r6.2.1 r6.2.2.1 r6.2.2.2))
theorem i_prover_inclusion.F_nat {R S : Type} (g : R → Option S) (rc : List ByteArray → Bool → List ByteArray → ByteArray → Int → Int → Option (ByteArray × List ByteArray × Bool × List ByteArray)) (kk : ByteArray → List ByteArray → Bool → List ByteArray → Option R) (p_proof : List ByteArray) (p_bad : Bool) (p_steps : List ByteArray) (leaf : ByteArray) (at_ : Int) (size : Int) : i_prover_inclusion.F rc (fun y0 y1 y2 y3 => (kk y0 y1 y2 y3).bind g) p_proof p_bad p_steps leaf at_ size = (i_prover_inclusion.F rc kk p_proof p_bad p_steps leaf at_ size).bind g := by
  simp only [i_prover_inclusion.F, grd_bind, cnd_bind, bnd_bind, non_bind]
def i_prover_inclusion : Nat → List ByteArray → Bool → List ByteArray → ByteArray → Int → Int → Option (ByteArray × List ByteArray × Bool × List ByteArray)
  | 0, _, _, _, _, _, _ => none
  | fu + 1, p_proof, p_bad, p_steps, leaf, at_, size => i_prover_inclusion.F (i_prover_inclusion fu) (fun y0 y1 y2 y3 => some (y0, y1, y2, y3)) p_proof p_bad p_steps leaf at_ size
theorem i_prover_inclusion_nat {S : Type} (fu : Nat) (g : (ByteArray × List ByteArray × Bool × List ByteArray) → Option S) (p_proof : List ByteArray) (p_bad : Bool) (p_steps : List ByteArray) (leaf : ByteArray) (at_ : Int) (size : Int) : i_prover_inclusion.F (i_prover_inclusion fu) (fun y0 y1 y2 y3 => g (y0, y1, y2, y3)) p_proof p_bad p_steps leaf at_ size = (i_prover_inclusion (fu + 1) p_proof p_bad p_steps leaf at_ size).bind g := i_prover_inclusion.F_nat g (i_prover_inclusion fu) (fun y0 y1 y2 y3 => some (y0, y1, y2, y3)) p_proof p_bad p_steps leaf at_ size
def i_prover_inclusion.out : (ByteArray × List ByteArray × Bool × List ByteArray) → CRes := fun a => ⟨encL SV.enc [.one (.str)] (a.1, ()), [encL SC.enc [.slv [1] .str, .bool, .own [] .str true] (a.2.1, a.2.2.1, a.2.2.2, ()), encL SC.enc [] (), encL SC.enc [] (), encL SC.enc [] ()]⟩
def i_prover_inclusion.ps : List PS := [.ptr [some (.str, false), none, some (.str, true)], .val [none], .val [none], .val [none]]
def i_prover_inclusion.sA : List SA := [.ptr [.slv [] .str, .bool, .own [] .str true], .v (.one (.str)), .v (.one (.int .i64)), .v (.one (.int .i64))]
def i_prover_inclusion.fi (fu : Nat) : FI := FIs i_prover_inclusion.sA (ByteArray × List ByteArray × Bool × List ByteArray) (fun t => i_prover_inclusion fu t.1.1 t.1.2.1 t.1.2.2.1 t.2.1 t.2.2.1 t.2.2.2.1) i_prover_inclusion.out i_prover_inclusion.ps
def i_prover_inclusion.E (fu : Nat) : Env := ⟨tt, lkF [(119, i_prover_inclusion.fi fu), (147, i_split.fi), (148, i_prover_node.fi), (149, i_prover_next.fi)], 44, 2, [], []⟩
theorem i_prover_inclusion.hok (fu : Nat) (hE : EOk Try.prog (i_prover_inclusion.E fu)) : HintOk Try.prog (i_prover_inclusion.E fu) (bodyOf Try.f119) (.a) := HintOk.n1 (Q := True) (by kernel_rfl) trivial
theorem i_prover_inclusion.fok0 : FOk Try.prog 119 (i_prover_inclusion.fi 0) := FOk.zero ⟨_, _, Try.func119, by kernel_rfl, rfl⟩ (fun _ => rfl)
theorem i_prover_inclusion.fok1 (fu : Nat) (ih : FOk Try.prog 119 (i_prover_inclusion.fi fu)) : FOk Try.prog 119 (i_prover_inclusion.fi (fu + 1)) := by
  have hE : EOk Try.prog (i_prover_inclusion.E fu) := EOk.of ttOk (⟨ih, ⟨i_split.fok, ⟨i_prover_node.fok, ⟨i_prover_next.fok, trivial⟩⟩⟩⟩)
  exact fokS (E := i_prover_inclusion.E fu) (wy := ⟨[[none]], [[some (.str, false), none, some (.str, true)], [], [], []], []⟩) (h := (fun gs => .a)) (G := fun t g => i_prover_inclusion.F (i_prover_inclusion fu) (fun y0 y1 y2 y3 => g (y0, y1, y2, y3)) t.1.1 t.1.2.1 t.1.2.2.1 t.2.1 t.2.2.1 t.2.2.2.1) (by kernel_rfl) hE Try.func119 (by kernel_rfl) rfl (Nat.le_refl _) (fun t => HintOk.n1 (by kernel_rfl) (i_prover_inclusion.hok fu hE)) (fun t g => i_prover_inclusion_nat fu g t.1.1 t.1.2.1 t.1.2.2.1 t.2.1 t.2.2.1 t.2.2.2.1) (fun t => by kernel_rfl)
theorem i_prover_inclusion.fok (fu : Nat) : FOk Try.prog 119 (i_prover_inclusion.fi fu) := Nat.rec i_prover_inclusion.fok0 i_prover_inclusion.fok1 fu
/-! loop.example_g00220_impl.inclusionRoot -/
def i_inclusionRoot.F {R : Type} (kk : ByteArray → List ByteArray → Int → Option R) (leaf : ByteArray) (at_ : Int) (size : Int) (proof : List ByteArray) : Option R :=
  (i_within size (1 : Int) (64 : Int)).bind fun r =>
  cond (!r) (kk ByteArray.empty [] (4 : Int)) (
    (i_within at_ (0 : Int) (IntKind.wrap .i64 (size - (1 : Int)))).bind fun r1 =>
    cond (!r1) (kk ByteArray.empty [] (4 : Int)) (
      (i_prover_inclusion fuel proof false [] leaf at_ size).bind fun r2 =>
      cond (r2.2.2.1) (kk ByteArray.empty [] (10 : Int)) (
        cond (decide ((List.length r2.2.1 : Int) > (0 : Int))) (kk ByteArray.empty [] (10 : Int)) (kk r2.1 r2.2.2.2 (0 : Int)))))
theorem i_inclusionRoot.F_nat {R S : Type} (g : R → Option S) (kk : ByteArray → List ByteArray → Int → Option R) (leaf : ByteArray) (at_ : Int) (size : Int) (proof : List ByteArray) : i_inclusionRoot.F (fun y0 y1 y2 => (kk y0 y1 y2).bind g) leaf at_ size proof = (i_inclusionRoot.F kk leaf at_ size proof).bind g := by
  simp only [i_inclusionRoot.F, grd_bind, cnd_bind, bnd_bind, non_bind]
def i_inclusionRoot (leaf : ByteArray) (at_ : Int) (size : Int) (proof : List ByteArray) : Option (ByteArray × List ByteArray × Int) := i_inclusionRoot.F (fun y0 y1 y2 => some (y0, y1, y2)) leaf at_ size proof
theorem i_inclusionRoot_nat {S : Type} (g : (ByteArray × List ByteArray × Int) → Option S) (leaf : ByteArray) (at_ : Int) (size : Int) (proof : List ByteArray) : i_inclusionRoot.F (fun y0 y1 y2 => g (y0, y1, y2)) leaf at_ size proof = (i_inclusionRoot leaf at_ size proof).bind g := i_inclusionRoot.F_nat g (fun y0 y1 y2 => some (y0, y1, y2)) leaf at_ size proof
def i_inclusionRoot.out : (ByteArray × List ByteArray × Int) → CRes := fun a => ⟨encL SV.enc [.one (.str), .one (.own [] .str true), .one (.int .i64)] (a.1, a.2.1, a.2.2, ()), [encL SC.enc [] (), encL SC.enc [] (), encL SC.enc [] (), encL SC.enc [] ()]⟩
def i_inclusionRoot.ps : List PS := [.val [none], .val [none], .val [none], .val [some (.str, false)]]
def i_inclusionRoot.sA : List SA := [.v (.one (.str)), .v (.one (.int .i64)), .v (.one (.int .i64)), .v (.one (.slv [] .str))]
def i_inclusionRoot.fi : FI := FIs i_inclusionRoot.sA (ByteArray × List ByteArray × Int) (fun t => i_inclusionRoot t.1 t.2.1 t.2.2.1 t.2.2.2.1) i_inclusionRoot.out i_inclusionRoot.ps
def i_inclusionRoot.E : Env := ⟨tt, lkF [(79, i_within.fi), (119, i_prover_inclusion.fi fuel)], 48, 0, [], []⟩
theorem i_inclusionRoot.hok (hE : EOk Try.prog (i_inclusionRoot.E)) : HintOk Try.prog i_inclusionRoot.E (bodyOf Try.f73) (.a) := HintOk.n1 (Q := True) (by kernel_rfl) trivial
theorem i_inclusionRoot.hE : EOk Try.prog (i_inclusionRoot.E) := EOk.of ttOk (⟨i_within.fok, ⟨i_prover_inclusion.fok fuel, trivial⟩⟩)
theorem i_inclusionRoot.fok : FOk Try.prog 73 i_inclusionRoot.fi :=
  fokS (E := i_inclusionRoot.E) (wy := ⟨[[none], [some (.str, true)], [none]], [[], [], [], []], []⟩) (h := (fun gs => .a)) (G := fun t g => i_inclusionRoot.F (fun y0 y1 y2 => g (y0, y1, y2)) t.1 t.2.1 t.2.2.1 t.2.2.2.1) (by kernel_rfl) i_inclusionRoot.hE Try.func73 (by kernel_rfl) rfl (Nat.le_refl _) (fun t => HintOk.n1 (by kernel_rfl) (i_inclusionRoot.hok i_inclusionRoot.hE)) (fun t g => i_inclusionRoot_nat g t.1 t.2.1 t.2.2.1 t.2.2.2.1) (fun t => by kernel_rfl)
/-! loop.example_g00220_impl.Collision -/
def i_Collision.j1 {R : Type} (kkn : ByteArray → Int → ByteArray → Int → Bool → ByteArray → ByteArray → Int → List ByteArray → List ByteArray → Option R) (rootA : ByteArray) (codeA : Int) (rootB : ByteArray) (codeB : Int) (s : ByteArray) (s1 : ByteArray) (i : Int) (stepsA : List ByteArray) (l : List ByteArray) : Option R :=
  cond (codeA != (0 : Int)) (kkn rootA codeA rootB codeB true s s1 i stepsA l) (kkn rootA codeA rootB codeB (codeB != (0 : Int)) s s1 i stepsA l)
theorem i_Collision.j1_nat {R S : Type} (g : R → Option S) (kkn : ByteArray → Int → ByteArray → Int → Bool → ByteArray → ByteArray → Int → List ByteArray → List ByteArray → Option R) (rootA : ByteArray) (codeA : Int) (rootB : ByteArray) (codeB : Int) (s : ByteArray) (s1 : ByteArray) (i : Int) (stepsA : List ByteArray) (l : List ByteArray) : i_Collision.j1 (fun y0 y1 y2 y3 y4 y5 y6 y7 y8 y9 => (kkn y0 y1 y2 y3 y4 y5 y6 y7 y8 y9).bind g) rootA codeA rootB codeB s s1 i stepsA l = (i_Collision.j1 kkn rootA codeA rootB codeB s s1 i stepsA l).bind g := by
  simp only [i_Collision.j1, grd_bind, cnd_bind, bnd_bind, non_bind]
def i_Collision.b2 {R : Type} (kkn : ByteArray → ByteArray → Int → Option R) (kkr : ByteArray → ByteArray → Int → Option R) : Nat → List ByteArray → ByteArray → ByteArray → Int → List ByteArray → Option R
  | 0, l, s, s1, i, l1 =>
    kkn s s1 i
  | kj + 1, l, s, s1, i, l1 =>
    grd (gIx (kj : Int) (List.length l1)) <|
    cond (!(sEq (rdE (.str : Kd) l kj) (rdE (.str : Kd) l1 (Int.toNat (kj : Int))))) (
      grd (gIx (kj : Int) (List.length l1)) <|
      kkr (rdE (.str : Kd) l kj) (rdE (.str : Kd) l1 (Int.toNat (kj : Int))) (0 : Int)) (i_Collision.b2 kkn kkr kj l s s1 i l1)
theorem i_Collision.b2_nat {R S : Type} (g : R → Option S) (kkn : ByteArray → ByteArray → Int → Option R) (kkr : ByteArray → ByteArray → Int → Option R) : ∀ (n : Nat) (l : List ByteArray) (s : ByteArray) (s1 : ByteArray) (i : Int) (l1 : List ByteArray), i_Collision.b2 (fun y0 y1 y2 => (kkn y0 y1 y2).bind g) (fun y0 y1 y2 => (kkr y0 y1 y2).bind g) n l s s1 i l1 = (i_Collision.b2 kkn kkr n l s s1 i l1).bind g := by
  intro n
  induction n with
  | zero => intros; simp only [i_Collision.b2, grd_bind, cnd_bind, bnd_bind, non_bind]
  | succ n ih => intros; simp only [i_Collision.b2, grd_bind, cnd_bind, bnd_bind, non_bind, ih]
def i_Collision.F {R : Type} (kk : ByteArray → ByteArray → Int → Option R) (at_ : Int) (size : Int) (leafA : ByteArray) (proofA : List ByteArray) (leafB : ByteArray) (proofB : List ByteArray) : Option R :=
  (i_isList_string proofA).bind fun r =>
  cond (!r) (kk ByteArray.empty ByteArray.empty (2 : Int)) (
    (i_isList_string proofB).bind fun r1 =>
    cond (!r1) (kk ByteArray.empty ByteArray.empty (2 : Int)) (
      (i_isText [leafA, leafB]).bind fun r2 =>
      cond (!r2) (kk ByteArray.empty ByteArray.empty (2 : Int)) (
        (i_proofCode proofA [leafA]).bind fun r3 =>
        cond (r3 != (0 : Int)) (kk ByteArray.empty ByteArray.empty (1 : Int)) (
          (i_proofCode proofB [leafB]).bind fun r4 =>
          cond (r4 != (0 : Int)) (kk ByteArray.empty ByteArray.empty (1 : Int)) (
            (i_inclusionRoot leafA at_ size proofA).bind fun r5 =>
            (i_inclusionRoot leafB at_ size proofB).bind fun r6 =>
            i_Collision.j1 (fun rootA codeA rootB codeB b s s1 i stepsA l =>
              cond (b) (kk ByteArray.empty ByteArray.empty (mx2 codeA codeB)) (
                cond (!(sEq rootA rootB)) (kk ByteArray.empty ByteArray.empty (11 : Int)) (
                  grd (decide (List.length stepsA * 16 ≤ 140737488351232)) <|
                  i_Collision.b2 (fun s2 s3 i1 => kk ByteArray.empty ByteArray.empty (5 : Int)) (fun s4 s5 i2 => kk s4 s5 i2) (List.length stepsA) stepsA s s1 i l))) r5.1 r5.2.2 r6.1 r6.2.2 ByteArray.empty ByteArray.empty (0 : Int) r5.2.1 r6.2.1)))))
theorem i_Collision.F_nat {R S : Type} (g : R → Option S) (kk : ByteArray → ByteArray → Int → Option R) (at_ : Int) (size : Int) (leafA : ByteArray) (proofA : List ByteArray) (leafB : ByteArray) (proofB : List ByteArray) : i_Collision.F (fun y0 y1 y2 => (kk y0 y1 y2).bind g) at_ size leafA proofA leafB proofB = (i_Collision.F kk at_ size leafA proofA leafB proofB).bind g := by
  simp only [i_Collision.F, grd_bind, cnd_bind, bnd_bind, non_bind, ← i_Collision.j1_nat, ← i_Collision.b2_nat]
def i_Collision (at_ : Int) (size : Int) (leafA : ByteArray) (proofA : List ByteArray) (leafB : ByteArray) (proofB : List ByteArray) : Option (ByteArray × ByteArray × Int) := i_Collision.F (fun y0 y1 y2 => some (y0, y1, y2)) at_ size leafA proofA leafB proofB
theorem i_Collision_nat {S : Type} (g : (ByteArray × ByteArray × Int) → Option S) (at_ : Int) (size : Int) (leafA : ByteArray) (proofA : List ByteArray) (leafB : ByteArray) (proofB : List ByteArray) : i_Collision.F (fun y0 y1 y2 => g (y0, y1, y2)) at_ size leafA proofA leafB proofB = (i_Collision at_ size leafA proofA leafB proofB).bind g := i_Collision.F_nat g (fun y0 y1 y2 => some (y0, y1, y2)) at_ size leafA proofA leafB proofB
def i_Collision.out : (ByteArray × ByteArray × Int) → CRes := fun a => ⟨encL SV.enc [.one (.str), .one (.str), .one (.int .i64)] (a.1, a.2.1, a.2.2, ()), [encL SC.enc [] (), encL SC.enc [] (), encL SC.enc [] (), encL SC.enc [] (), encL SC.enc [] (), encL SC.enc [] ()]⟩
def i_Collision.ps : List PS := [.val [none], .val [none], .val [none], .val [some (.str, false)], .val [none], .val [some (.str, false)]]
def i_Collision.sA : List SA := [.v (.one (.int .i64)), .v (.one (.int .i64)), .v (.one (.str)), .v (.one (.slv [] .str)), .v (.one (.str)), .v (.one (.slv [] .str))]
def i_Collision.fi : FI := FIs i_Collision.sA (ByteArray × ByteArray × Int) (fun t => i_Collision t.1 t.2.1 t.2.2.1 t.2.2.2.1 t.2.2.2.2.1 t.2.2.2.2.2.1) i_Collision.out i_Collision.ps
def i_Collision.E : Env := ⟨tt, lkF [(62, i_isList_string.fi), (71, i_isText.fi), (72, i_proofCode.fi), (73, i_inclusionRoot.fi)], 97, 0, [], []⟩
def i_Collision.sh1 : SK := ⟨[.v (.one (.bptr 0 0)), .v (.one (.bptr 1 0)), .v (.one (.bptr 2 0)), .v (.one (.str)), .v (.one (.slo 3)), .v (.one (.int .i64)), .v (.one (.str)), .v (.one (.bptr 4 0)), .v (.one (.int .i64))], [.box [.str], .box [.str], .box [.int .i64], .arr .str [] true, .box [.slo 5], .arr .str [] true]⟩
def i_Collision.sh1n : SK := ⟨[.v (.one (.bptr 0 0)), .v (.one (.bptr 1 0)), .v (.one (.bptr 2 0)), .v (.one (.str)), .v (.one (.slo 3)), .v (.one (.int .i64)), .v (.one (.str)), .v (.one (.bptr 4 0)), .v (.one (.int .i64)), .v (.one (.bool))], [.box [.str], .box [.str], .box [.int .i64], .arr .str [] true, .box [.slo 5], .arr .str [] true]⟩
def i_Collision.ko1 : Ex → List CastAt × List Nat
  | .nrm => ([], [12, 13, 14, 15, 16, 17, 18, 19, 20, 68])
  | .ret => ([], [])
  | .ext i => ([], [])
def i_Collision.G1 (R : Type) (t : i_Collision.sh1.T) (K : Ex → Kp → Option R) : Option R := i_Collision.j1 (fun y0 y1 y2 y3 y4 y5 y6 y7 y8 y9 => K .nrm (SK.enc i_Collision.sh1n (((), (), (), y0, (), y1, y2, (), y3, y4, ()), ((y5, ()), (y6, ()), (y7, ()), y8, ((), ()), y9, ())))) t.1.2.2.2.1 t.1.2.2.2.2.2.1 t.1.2.2.2.2.2.2.1 t.1.2.2.2.2.2.2.2.2.1 t.2.1.1 t.2.2.1.1 t.2.2.2.1.1 t.2.2.2.2.1 t.2.2.2.2.2.2.1
def i_Collision.S1 : Sum := ⟨([], [12, 13, 14, 15, 16, 17, 18, 19, 20]), sumF i_Collision.sh1 (i_Collision.G1), i_Collision.ko1⟩
theorem i_Collision.ok1 (hE : EOk Try.prog (i_Collision.E)) : SumOk Try.prog i_Collision.E (cL (cB (cL (cR (cR (cR (cR (cR (bodyOf Try.f29))))))))) (i_Collision.S1) := by
  have hh : HintOk Try.prog i_Collision.E (cL (cB (cL (cR (cR (cR (cR (cR (bodyOf Try.f29))))))))) (.a) := HintOk.n1 (Q := True) (by kernel_rfl) trivial
  exact sumS (kin := ([], [12, 13, 14, 15, 16, 17, 18, 19, 20])) (kout := i_Collision.ko1) (sh := i_Collision.sh1) (F := i_Collision.G1) (ops_ok (hE.gv _)) (by kernel_rfl) hh (fun R t K => by kernel_rfl)
def i_Collision.sh2 : SK := ⟨[.v (.one (.bptr 0 0)), .v (.one (.bptr 1 0)), .v (.one (.bptr 2 0)), .v (.one (.bptr 3 0)), .v (.one (.slv [0] .str))], [.box [.str], .box [.str], .box [.int .i64], .box [.slo 4], .arr .str [] true]⟩
def i_Collision.sh2n : SK := ⟨[.v (.one (.bptr 0 0)), .v (.one (.bptr 1 0)), .v (.one (.bptr 2 0))], [.box [.str], .box [.str], .box [.int .i64]]⟩
def i_Collision.sh2r : SK := ⟨[.v (.one (.bptr 0 0)), .v (.one (.bptr 1 0)), .v (.one (.bptr 2 0))], [.box [.str], .box [.str], .box [.int .i64]]⟩
def i_Collision.ko2 : Ex → List CastAt × List Nat
  | .nrm => ([], [12, 13, 14])
  | .ret => ([], [12, 13, 14])
  | .ext i => ([], [])
def i_Collision.G2 (n : Nat) (R : Type) (t : i_Collision.sh2.T) (K : Ex → Kp → Option R) : Option R := i_Collision.b2 (fun y0 y1 y2 => K .nrm (SK.enc i_Collision.sh2n (((), (), (), ()), ((y0, ()), (y1, ()), (y2, ()), ())))) (fun y0 y1 y2 => K .ret (SK.enc i_Collision.sh2r (((), (), (), ()), ((y0, ()), (y1, ()), (y2, ()), ())))) n t.1.2.2.2.2.1 t.2.1.1 t.2.2.1.1 t.2.2.2.1.1 t.2.2.2.2.2.1
def i_Collision.S2 : Sum := ⟨([⟨82, false, 0, .slv [0] .str⟩], [12, 13, 14, 19, 82]), backF (k := .str) i_Collision.sh2 (fun t => t.1.2.2.2.2.1) 16 (i_Collision.G2), i_Collision.ko2⟩
theorem i_Collision.ok2 (hE : EOk Try.prog (i_Collision.E)) : TailOk Try.prog i_Collision.E (opsOf (cL (cL (cR (cR (cR (cR (cR (cR (bodyOf Try.f29)))))))))) (cR (cL (cR (cR (cR (cR (cR (cR (bodyOf Try.f29))))))))) (i_Collision.S2) :=
  backS (kout := i_Collision.ko2) (sh := i_Collision.sh2) (k := .str) (m := [0]) (row := fun t => t.1.2.2.2.2.1) (F := i_Collision.G2) (bl := 1) (t0 := 82) (t1 := 83) (p0 := 84) (p1 := 85) (ops_ok (hE.gv _)) (by kernel_rfl) dn74 (by kernel_rfl) (by kernel_rfl) (by kernel_rfl) (fun t => by kernel_rfl) (fun R t K => by kernel_rfl) (fun n R t K => by kernel_rfl)
theorem i_Collision.hok (hE : EOk Try.prog (i_Collision.E)) : HintOk Try.prog i_Collision.E (bodyOf Try.f29) (.n (.a) (.n (.a) (.n (.a) (.n (.a) (.n (.a) (.n (.b (.n (.s (i_Collision.S1)) (.a))) (.n (.r (i_Collision.S2)) (.a)))))))) := HintOk.n1 (Q := (True) ∧ ((True) ∧ ((True) ∧ ((True) ∧ ((True) ∧ (((SumOk Try.prog i_Collision.E (cL (cB (cL (cR (cR (cR (cR (cR (bodyOf Try.f29))))))))) (i_Collision.S1)) ∧ (True)) ∧ ((TailOk Try.prog i_Collision.E (opsOf (cL (cL (cR (cR (cR (cR (cR (cR (bodyOf Try.f29)))))))))) (cR (cL (cR (cR (cR (cR (cR (cR (bodyOf Try.f29))))))))) (i_Collision.S2)) ∧ (True)))))))) (by kernel_rfl) ⟨trivial, ⟨trivial, ⟨trivial, ⟨trivial, ⟨trivial, ⟨⟨(i_Collision.ok1 hE), trivial⟩, ⟨(i_Collision.ok2 hE), trivial⟩⟩⟩⟩⟩⟩⟩
theorem i_Collision.hE : EOk Try.prog (i_Collision.E) := EOk.of ttOk (⟨i_isList_string.fok, ⟨i_isText.fok, ⟨i_proofCode.fok, ⟨i_inclusionRoot.fok, trivial⟩⟩⟩⟩)
theorem i_Collision.fok : FOk Try.prog 29 i_Collision.fi :=
  fokS (E := i_Collision.E) (wy := ⟨[[none], [none], [none]], [[], [], [], [], [], []], []⟩) (h := (fun gs => .n (.a) (.n (.a) (.n (.a) (.n (.a) (.n (.a) (.n (.b (.n (.s (i_Collision.S1)) (.a))) (.n (.r (i_Collision.S2)) (.a))))))))) (G := fun t g => i_Collision.F (fun y0 y1 y2 => g (y0, y1, y2)) t.1 t.2.1 t.2.2.1 t.2.2.2.1 t.2.2.2.2.1 t.2.2.2.2.2.1) (by kernel_rfl) i_Collision.hE Try.func29 (by kernel_rfl) rfl (Nat.le_refl _) (fun t => HintOk.n1 (by kernel_rfl) (i_Collision.hok i_Collision.hE)) (fun t g => i_Collision_nat g t.1 t.2.1 t.2.2.1 t.2.2.2.1 t.2.2.2.2.1 t.2.2.2.2.2.1) (fun t => by kernel_rfl)
/-! loop.example_g00220_spec.l00Source -/
def s_l00Source.F {R : Type} (kk : List Int → Int → Int → Option R) (code : List Int) : Option R :=
  grd (gNz (1000 : Int)) <|
  kk code (0 : Int) (Int.tmod (List.length code : Int) (1000 : Int))
theorem s_l00Source.F_nat {R S : Type} (g : R → Option S) (kk : List Int → Int → Int → Option R) (code : List Int) : s_l00Source.F (fun y0 y1 y2 => (kk y0 y1 y2).bind g) code = (s_l00Source.F kk code).bind g := by
  simp only [s_l00Source.F, grd_bind, cnd_bind, bnd_bind, non_bind]
def s_l00Source (code : List Int) : Option (List Int × Int × Int) := s_l00Source.F (fun y0 y1 y2 => some (y0, y1, y2)) code
theorem s_l00Source_nat {S : Type} (g : (List Int × Int × Int) → Option S) (code : List Int) : s_l00Source.F (fun y0 y1 y2 => g (y0, y1, y2)) code = (s_l00Source code).bind g := s_l00Source.F_nat g (fun y0 y1 y2 => some (y0, y1, y2)) code
def s_l00Source.out : (List Int × Int × Int) → CRes := fun a => ⟨encL SV.enc [.pbx [.slv [1] (.int .u8), .int .i64, .int .i64]] ((a.1, a.2.1, a.2.2, ()), ()), [encL SC.enc [] ()]⟩
def s_l00Source.ps : List PS := [.val [some ((.int .u8), false)]]
def s_l00Source.sA : List SA := [.v (.one (.slv [] (.int .u8)))]
def s_l00Source.fi : FI := FIs s_l00Source.sA (List Int × Int × Int) (fun t => s_l00Source t.1) s_l00Source.out s_l00Source.ps
def s_l00Source.E : Env := ⟨tt, lkF [], 9, 0, [], []⟩
theorem s_l00Source.hok (hE : EOk Try.prog (s_l00Source.E)) : HintOk Try.prog s_l00Source.E (bodyOf Try.f45) (.a) := HintOk.n1 (Q := True) (by kernel_rfl) trivial
theorem s_l00Source.hE : EOk Try.prog (s_l00Source.E) := EOk.of ttOk (trivial)
theorem s_l00Source.fok : FOk Try.prog 45 s_l00Source.fi :=
  fokS (E := s_l00Source.E) (wy := ⟨[[some ((.int .u8), false), none, none]], [[]], []⟩) (h := (fun gs => .a)) (G := fun t g => s_l00Source.F (fun y0 y1 y2 => g (y0, y1, y2)) t.1) (by kernel_rfl) s_l00Source.hE Try.func45 (by kernel_rfl) rfl (Nat.le_refl _) (fun t => HintOk.n1 (by kernel_rfl) (s_l00Source.hok s_l00Source.hE)) (fun t g => s_l00Source_nat g t.1) (fun t => by kernel_rfl)
/-! loop.example_g00220_spec.l06Leaf -/
def s_l06Leaf.F {R : Type} (kk : ByteArray → Option R) (data : ByteArray) : Option R :=
  grd (gRm (((List.length [(0 : Int)]) + (List.length (bytesL data))) * 1)) <|
  (s_l01Hash ([(0 : Int)] ++ (bytesL data))).bind fun r =>
  kk r
theorem s_l06Leaf.F_nat {R S : Type} (g : R → Option S) (kk : ByteArray → Option R) (data : ByteArray) : s_l06Leaf.F (fun y0 => (kk y0).bind g) data = (s_l06Leaf.F kk data).bind g := by
  simp only [s_l06Leaf.F, grd_bind, cnd_bind, bnd_bind, non_bind]
def s_l06Leaf (data : ByteArray) : Option ByteArray := s_l06Leaf.F (fun y0 => some y0) data
theorem s_l06Leaf_nat {S : Type} (g : ByteArray → Option S) (data : ByteArray) : s_l06Leaf.F (fun y0 => g y0) data = (s_l06Leaf data).bind g := s_l06Leaf.F_nat g (fun y0 => some y0) data
def s_l06Leaf.out : ByteArray → CRes := fun a => ⟨encL SV.enc [.one (.str)] (a, ()), [encL SC.enc [] ()]⟩
def s_l06Leaf.ps : List PS := [.val [none]]
def s_l06Leaf.sA : List SA := [.v (.one (.str))]
def s_l06Leaf.fi : FI := FIs s_l06Leaf.sA (ByteArray) (fun t => s_l06Leaf t.1) s_l06Leaf.out s_l06Leaf.ps
def s_l06Leaf.E : Env := ⟨tt, lkF [(122, s_l01Hash.fi)], 7, 0, [], []⟩
theorem s_l06Leaf.hok (hE : EOk Try.prog (s_l06Leaf.E)) : HintOk Try.prog s_l06Leaf.E (bodyOf Try.f77) (.a) := HintOk.n1 (Q := True) (by kernel_rfl) trivial
theorem s_l06Leaf.hE : EOk Try.prog (s_l06Leaf.E) := EOk.of ttOk (⟨s_l01Hash.fok, trivial⟩)
theorem s_l06Leaf.fok : FOk Try.prog 77 s_l06Leaf.fi :=
  fokS (E := s_l06Leaf.E) (wy := ⟨[[none]], [[]], []⟩) (h := (fun gs => .a)) (G := fun t g => s_l06Leaf.F (fun y0 => g y0) t.1) (by kernel_rfl) s_l06Leaf.hE Try.func77 (by kernel_rfl) rfl (Nat.le_refl _) (fun t => HintOk.n1 (by kernel_rfl) (s_l06Leaf.hok s_l06Leaf.hE)) (fun t g => s_l06Leaf_nat g t.1) (fun t => by kernel_rfl)
/-! __loop.example_g00220_spec.l00Src_.byte -/
def s_l00Src_byte.F {R : Type} (kk : Int → List Int → Int → Int → Option R) (s_code : List Int) (s_at : Int) (s_seed : Int) : Option R :=
  cond (decide ((IntKind.wrap .i64 (s_at + (1 : Int))) ≤ (List.length s_code : Int))) (
    grd (gIx (IntKind.wrap .i64 ((IntKind.wrap .i64 (s_at + (1 : Int))) - (1 : Int))) (List.length s_code)) <|
    grd (gNz (2147483648 : Int)) <|
    grd (gIx (IntKind.wrap .i64 ((IntKind.wrap .i64 (s_at + (1 : Int))) - (1 : Int))) (List.length s_code)) <|
    kk (IntKind.wrap .i64 (rdE (.int .u8 : Kd) s_code (Int.toNat (IntKind.wrap .i64 ((IntKind.wrap .i64 (s_at + (1 : Int))) - (1 : Int)))))) s_code (IntKind.wrap .i64 (s_at + (1 : Int))) (Int.tmod (IntKind.wrap .i64 ((IntKind.wrap .i64 ((IntKind.wrap .i64 (s_seed * (31 : Int))) + (IntKind.wrap .i64 (rdE (.int .u8 : Kd) s_code (Int.toNat (IntKind.wrap .i64 ((IntKind.wrap .i64 (s_at + (1 : Int))) - (1 : Int)))))))) + (7 : Int))) (2147483648 : Int))) (
    cond (decide ((IntKind.wrap .i64 (s_at + (1 : Int))) > (3000 : Int))) (kk (0 : Int) s_code (IntKind.wrap .i64 (s_at + (1 : Int))) s_seed) (
      grd (gNz (2147483648 : Int)) <|
      grd (gNz (65536 : Int)) <|
      grd (gNz (256 : Int)) <|
      kk (Int.tmod (IntKind.wrap .i64 (Int.tdiv (Int.tmod (IntKind.wrap .i64 ((IntKind.wrap .i64 (s_seed * (1103515245 : Int))) + (12345 : Int))) (2147483648 : Int)) (65536 : Int))) (256 : Int)) s_code (IntKind.wrap .i64 (s_at + (1 : Int))) (Int.tmod (IntKind.wrap .i64 ((IntKind.wrap .i64 (s_seed * (1103515245 : Int))) + (12345 : Int))) (2147483648 : Int))))
theorem s_l00Src_byte.F_nat {R S : Type} (g : R → Option S) (kk : Int → List Int → Int → Int → Option R) (s_code : List Int) (s_at : Int) (s_seed : Int) : s_l00Src_byte.F (fun y0 y1 y2 y3 => (kk y0 y1 y2 y3).bind g) s_code s_at s_seed = (s_l00Src_byte.F kk s_code s_at s_seed).bind g := by
  simp only [s_l00Src_byte.F, grd_bind, cnd_bind, bnd_bind, non_bind]
def s_l00Src_byte (s_code : List Int) (s_at : Int) (s_seed : Int) : Option (Int × List Int × Int × Int) := s_l00Src_byte.F (fun y0 y1 y2 y3 => some (y0, y1, y2, y3)) s_code s_at s_seed
theorem s_l00Src_byte_nat {S : Type} (g : (Int × List Int × Int × Int) → Option S) (s_code : List Int) (s_at : Int) (s_seed : Int) : s_l00Src_byte.F (fun y0 y1 y2 y3 => g (y0, y1, y2, y3)) s_code s_at s_seed = (s_l00Src_byte s_code s_at s_seed).bind g := s_l00Src_byte.F_nat g (fun y0 y1 y2 y3 => some (y0, y1, y2, y3)) s_code s_at s_seed
def s_l00Src_byte.out : (Int × List Int × Int × Int) → CRes := fun a => ⟨encL SV.enc [.one (.int .i64)] (a.1, ()), [encL SC.enc [.slv [1] (.int .u8), .int .i64, .int .i64] (a.2.1, a.2.2.1, a.2.2.2, ())]⟩
def s_l00Src_byte.ps : List PS := [.ptr [some ((.int .u8), false), none, none]]
def s_l00Src_byte.sA : List SA := [.ptr [.slv [] (.int .u8), .int .i64, .int .i64]]
def s_l00Src_byte.fi : FI := FIs s_l00Src_byte.sA (Int × List Int × Int × Int) (fun t => s_l00Src_byte t.1.1 t.1.2.1 t.1.2.2.1) s_l00Src_byte.out s_l00Src_byte.ps
def s_l00Src_byte.E : Env := ⟨tt, lkF [], 76, 1, [], []⟩
theorem s_l00Src_byte.hok (hE : EOk Try.prog (s_l00Src_byte.E)) : HintOk Try.prog s_l00Src_byte.E (bodyOf Try.f139) (.a) := HintOk.n1 (Q := True) (by kernel_rfl) trivial
theorem s_l00Src_byte.hE : EOk Try.prog (s_l00Src_byte.E) := EOk.of ttOk (trivial)
theorem s_l00Src_byte.fok : FOk Try.prog 139 s_l00Src_byte.fi :=
  fokS (E := s_l00Src_byte.E) (wy := ⟨[[none]], [[some ((.int .u8), false), none, none]], []⟩) (h := (fun gs => .a)) (G := fun t g => s_l00Src_byte.F (fun y0 y1 y2 y3 => g (y0, y1, y2, y3)) t.1.1 t.1.2.1 t.1.2.2.1) (by kernel_rfl) s_l00Src_byte.hE Try.func139 (by kernel_rfl) rfl (Nat.le_refl _) (fun t => HintOk.n1 (by kernel_rfl) (s_l00Src_byte.hok s_l00Src_byte.hE)) (fun t g => s_l00Src_byte_nat g t.1.1 t.1.2.1 t.1.2.2.1) (fun t => by kernel_rfl)
/-! __loop.example_g00220_spec.l00Src_.next -/
def s_l00Src_next.F {R : Type} (kk : Int → List Int → Int → Int → Option R) (s_code : List Int) (s_at : Int) (s_seed : Int) (n_ : Int) : Option R :=
  cond (decide (n_ ≤ (1 : Int))) (kk (0 : Int) s_code s_at s_seed) (
    cond (decide (n_ ≤ (256 : Int))) (
      (s_l00Src_byte s_code s_at s_seed).bind fun r =>
      grd (gNz n_) <|
      kk (Int.tmod r.1 n_) r.2.1 r.2.2.1 r.2.2.2) (
      (s_l00Src_byte s_code s_at s_seed).bind fun r1 =>
      (s_l00Src_byte r1.2.1 r1.2.2.1 r1.2.2.2).bind fun r2 =>
      (s_l00Src_byte r2.2.1 r2.2.2.1 r2.2.2.2).bind fun r3 =>
      grd (gNz n_) <|
      kk (Int.tmod (IntKind.wrap .i64 ((IntKind.wrap .i64 ((IntKind.wrap .i64 (r1.1 * (65536 : Int))) + (IntKind.wrap .i64 (r2.1 * (256 : Int))))) + r3.1)) n_) r3.2.1 r3.2.2.1 r3.2.2.2))
theorem s_l00Src_next.F_nat {R S : Type} (g : R → Option S) (kk : Int → List Int → Int → Int → Option R) (s_code : List Int) (s_at : Int) (s_seed : Int) (n_ : Int) : s_l00Src_next.F (fun y0 y1 y2 y3 => (kk y0 y1 y2 y3).bind g) s_code s_at s_seed n_ = (s_l00Src_next.F kk s_code s_at s_seed n_).bind g := by
  simp only [s_l00Src_next.F, grd_bind, cnd_bind, bnd_bind, non_bind]
def s_l00Src_next (s_code : List Int) (s_at : Int) (s_seed : Int) (n_ : Int) : Option (Int × List Int × Int × Int) := s_l00Src_next.F (fun y0 y1 y2 y3 => some (y0, y1, y2, y3)) s_code s_at s_seed n_
theorem s_l00Src_next_nat {S : Type} (g : (Int × List Int × Int × Int) → Option S) (s_code : List Int) (s_at : Int) (s_seed : Int) (n_ : Int) : s_l00Src_next.F (fun y0 y1 y2 y3 => g (y0, y1, y2, y3)) s_code s_at s_seed n_ = (s_l00Src_next s_code s_at s_seed n_).bind g := s_l00Src_next.F_nat g (fun y0 y1 y2 y3 => some (y0, y1, y2, y3)) s_code s_at s_seed n_
def s_l00Src_next.out : (Int × List Int × Int × Int) → CRes := fun a => ⟨encL SV.enc [.one (.int .i64)] (a.1, ()), [encL SC.enc [.slv [1] (.int .u8), .int .i64, .int .i64] (a.2.1, a.2.2.1, a.2.2.2, ()), encL SC.enc [] ()]⟩
def s_l00Src_next.ps : List PS := [.ptr [some ((.int .u8), false), none, none], .val [none]]
def s_l00Src_next.sA : List SA := [.ptr [.slv [] (.int .u8), .int .i64, .int .i64], .v (.one (.int .i64))]
def s_l00Src_next.fi : FI := FIs s_l00Src_next.sA (Int × List Int × Int × Int) (fun t => s_l00Src_next t.1.1 t.1.2.1 t.1.2.2.1 t.2.1) s_l00Src_next.out s_l00Src_next.ps
def s_l00Src_next.E : Env := ⟨tt, lkF [(139, s_l00Src_byte.fi)], 31, 1, [], []⟩
theorem s_l00Src_next.hok (hE : EOk Try.prog (s_l00Src_next.E)) : HintOk Try.prog s_l00Src_next.E (bodyOf Try.f91) (.a) := HintOk.n1 (Q := True) (by kernel_rfl) trivial
theorem s_l00Src_next.hE : EOk Try.prog (s_l00Src_next.E) := EOk.of ttOk (⟨s_l00Src_byte.fok, trivial⟩)
theorem s_l00Src_next.fok : FOk Try.prog 91 s_l00Src_next.fi :=
  fokS (E := s_l00Src_next.E) (wy := ⟨[[none]], [[some ((.int .u8), false), none, none], []], []⟩) (h := (fun gs => .a)) (G := fun t g => s_l00Src_next.F (fun y0 y1 y2 y3 => g (y0, y1, y2, y3)) t.1.1 t.1.2.1 t.1.2.2.1 t.2.1) (by kernel_rfl) s_l00Src_next.hE Try.func91 (by kernel_rfl) rfl (Nat.le_refl _) (fun t => HintOk.n1 (by kernel_rfl) (s_l00Src_next.hok s_l00Src_next.hE)) (fun t g => s_l00Src_next_nat g t.1.1 t.1.2.1 t.1.2.2.1 t.2.1) (fun t => by kernel_rfl)
/-! __loop.example_g00220_spec.l00Src_.chance -/
def s_l00Src_chance.F {R : Type} (kk : Bool → List Int → Int → Int → Option R) (s_code : List Int) (s_at : Int) (s_seed : Int) (n_ : Int) : Option R :=
  (s_l00Src_next s_code s_at s_seed n_).bind fun r =>
  kk (r.1 == (IntKind.wrap .i64 (n_ - (1 : Int)))) r.2.1 r.2.2.1 r.2.2.2
theorem s_l00Src_chance.F_nat {R S : Type} (g : R → Option S) (kk : Bool → List Int → Int → Int → Option R) (s_code : List Int) (s_at : Int) (s_seed : Int) (n_ : Int) : s_l00Src_chance.F (fun y0 y1 y2 y3 => (kk y0 y1 y2 y3).bind g) s_code s_at s_seed n_ = (s_l00Src_chance.F kk s_code s_at s_seed n_).bind g := by
  simp only [s_l00Src_chance.F, grd_bind, cnd_bind, bnd_bind, non_bind]
def s_l00Src_chance (s_code : List Int) (s_at : Int) (s_seed : Int) (n_ : Int) : Option (Bool × List Int × Int × Int) := s_l00Src_chance.F (fun y0 y1 y2 y3 => some (y0, y1, y2, y3)) s_code s_at s_seed n_
theorem s_l00Src_chance_nat {S : Type} (g : (Bool × List Int × Int × Int) → Option S) (s_code : List Int) (s_at : Int) (s_seed : Int) (n_ : Int) : s_l00Src_chance.F (fun y0 y1 y2 y3 => g (y0, y1, y2, y3)) s_code s_at s_seed n_ = (s_l00Src_chance s_code s_at s_seed n_).bind g := s_l00Src_chance.F_nat g (fun y0 y1 y2 y3 => some (y0, y1, y2, y3)) s_code s_at s_seed n_
def s_l00Src_chance.out : (Bool × List Int × Int × Int) → CRes := fun a => ⟨encL SV.enc [.one (.bool)] (a.1, ()), [encL SC.enc [.slv [1] (.int .u8), .int .i64, .int .i64] (a.2.1, a.2.2.1, a.2.2.2, ()), encL SC.enc [] ()]⟩
def s_l00Src_chance.ps : List PS := [.ptr [some ((.int .u8), false), none, none], .val [none]]
def s_l00Src_chance.sA : List SA := [.ptr [.slv [] (.int .u8), .int .i64, .int .i64], .v (.one (.int .i64))]
def s_l00Src_chance.fi : FI := FIs s_l00Src_chance.sA (Bool × List Int × Int × Int) (fun t => s_l00Src_chance t.1.1 t.1.2.1 t.1.2.2.1 t.2.1) s_l00Src_chance.out s_l00Src_chance.ps
def s_l00Src_chance.E : Env := ⟨tt, lkF [(91, s_l00Src_next.fi)], 11, 1, [], []⟩
theorem s_l00Src_chance.hok (hE : EOk Try.prog (s_l00Src_chance.E)) : HintOk Try.prog s_l00Src_chance.E (bodyOf Try.f94) (.a) := HintOk.n1 (Q := True) (by kernel_rfl) trivial
theorem s_l00Src_chance.hE : EOk Try.prog (s_l00Src_chance.E) := EOk.of ttOk (⟨s_l00Src_next.fok, trivial⟩)
theorem s_l00Src_chance.fok : FOk Try.prog 94 s_l00Src_chance.fi :=
  fokS (E := s_l00Src_chance.E) (wy := ⟨[[none]], [[some ((.int .u8), false), none, none], []], []⟩) (h := (fun gs => .a)) (G := fun t g => s_l00Src_chance.F (fun y0 y1 y2 y3 => g (y0, y1, y2, y3)) t.1.1 t.1.2.1 t.1.2.2.1 t.2.1) (by kernel_rfl) s_l00Src_chance.hE Try.func94 (by kernel_rfl) rfl (Nat.le_refl _) (fun t => HintOk.n1 (by kernel_rfl) (s_l00Src_chance.hok s_l00Src_chance.hE)) (fun t g => s_l00Src_chance_nat g t.1.1 t.1.2.1 t.1.2.2.1 t.2.1) (fun t => by kernel_rfl)
/-! __loop.example_g00220_spec.l00Src_.leaves -/
def s_l00Src_leaves.l1 {R : Type} (kke0 : List Int → Int → Int → List ByteArray → Option R) : Nat → Int → List Int → Int → Int → List ByteArray → Option R
  | 0, _, _, _, _, _ => none
  | n + 1, i, s, s1, s2, out =>
    cond (decide (i > (0 : Int))) (
      (s_l00Src_next s s1 s2 (3 : Int)).bind fun r =>
      (s_l06Leaf (strL [IntKind.wrap .u8 i, IntKind.wrap .u8 r.1])).bind fun r1 =>
      grd (gRm (((List.length out) + (List.length [r1])) * 16)) <|
      s_l00Src_leaves.l1 kke0 n (IntKind.wrap .i64 (i - (1 : Int))) r.2.1 r.2.2.1 r.2.2.2 (out ++ [r1])) (kke0 s s1 s2 out)
theorem s_l00Src_leaves.l1_nat {R S : Type} (g : R → Option S) (kke0 : List Int → Int → Int → List ByteArray → Option R) : ∀ (n : Nat) (i : Int) (s : List Int) (s1 : Int) (s2 : Int) (out : List ByteArray), s_l00Src_leaves.l1 (fun y0 y1 y2 y3 => (kke0 y0 y1 y2 y3).bind g) n i s s1 s2 out = (s_l00Src_leaves.l1 kke0 n i s s1 s2 out).bind g := by
  intro n
  induction n with
  | zero => intros; rfl
  | succ n ih => intros; simp only [s_l00Src_leaves.l1, grd_bind, cnd_bind, bnd_bind, non_bind, ih]
def s_l00Src_leaves.l2 {R : Type} (kke2 : List Int → Int → Int → List ByteArray → Option R) : Nat → List Int → Int → Int → List ByteArray → Option R
  | 0, _, _, _, _ => none
  | n + 1, s, s1, s2, out =>
    (s_l00Src_next s s1 s2 (2 : Int)).bind fun r =>
    cond (decide ((List.length out : Int) < (IntKind.wrap .i64 ((64 : Int) + r.1)))) (
      grd (gSl (0 : Int) (mn2 (1 : Int) (List.length out : Int)) (List.length out)) <|
      grd (gRm (((List.length out) + (List.length (sub out (0 : Int) (mn2 (1 : Int) (List.length out : Int))))) * 16)) <|
      cond ((List.length (out ++ (sub out (0 : Int) (mn2 (1 : Int) (List.length out : Int)))) : Int) == (0 : Int)) (
        (s_l06Leaf ByteArray.empty).bind fun r1 =>
        grd (gRm (((List.length (out ++ (sub out (0 : Int) (mn2 (1 : Int) (List.length out : Int))))) + (List.length [r1])) * 16)) <|
        s_l00Src_leaves.l2 kke2 n r.2.1 r.2.2.1 r.2.2.2 ((out ++ (sub out (0 : Int) (mn2 (1 : Int) (List.length out : Int)))) ++ [r1])) (
        s_l00Src_leaves.l2 kke2 n r.2.1 r.2.2.1 r.2.2.2 (out ++ (sub out (0 : Int) (mn2 (1 : Int) (List.length out : Int)))))) (kke2 r.2.1 r.2.2.1 r.2.2.2 out)
theorem s_l00Src_leaves.l2_nat {R S : Type} (g : R → Option S) (kke2 : List Int → Int → Int → List ByteArray → Option R) : ∀ (n : Nat) (s : List Int) (s1 : Int) (s2 : Int) (out : List ByteArray), s_l00Src_leaves.l2 (fun y0 y1 y2 y3 => (kke2 y0 y1 y2 y3).bind g) n s s1 s2 out = (s_l00Src_leaves.l2 kke2 n s s1 s2 out).bind g := by
  intro n
  induction n with
  | zero => intros; rfl
  | succ n ih => intros; simp only [s_l00Src_leaves.l2, grd_bind, cnd_bind, bnd_bind, non_bind, ih]
def s_l00Src_leaves.F {R : Type} (kk : List ByteArray → List Int → Int → Int → Option R) (s_code : List Int) (s_at : Int) (s_seed : Int) : Option R :=
  (s_l00Src_next s_code s_at s_seed (3 : Int)).bind fun r =>
  grd (gIx r.1 (List.length [(4 : Int), (10 : Int), (20 : Int)])) <|
  (s_l00Src_next r.2.1 r.2.2.1 r.2.2.2 (rdE (.int .i64 : Kd) [(4 : Int), (10 : Int), (20 : Int)] (Int.toNat r.1))).bind fun r1 =>
  s_l00Src_leaves.l1 (fun s s1 s2 out =>
    (s_l00Src_chance s s1 s2 (40 : Int)).bind fun r2 =>
    cond (r2.1) (s_l00Src_leaves.l2 (fun s3 s4 s5 out1 => kk out1 s3 s4 s5) fuel r2.2.1 r2.2.2.1 r2.2.2.2 out) (kk out r2.2.1 r2.2.2.1 r2.2.2.2)) fuel r1.1 r1.2.1 r1.2.2.1 r1.2.2.2 ([] : List ByteArray)
theorem s_l00Src_leaves.F_nat {R S : Type} (g : R → Option S) (kk : List ByteArray → List Int → Int → Int → Option R) (s_code : List Int) (s_at : Int) (s_seed : Int) : s_l00Src_leaves.F (fun y0 y1 y2 y3 => (kk y0 y1 y2 y3).bind g) s_code s_at s_seed = (s_l00Src_leaves.F kk s_code s_at s_seed).bind g := by
  simp only [s_l00Src_leaves.F, grd_bind, cnd_bind, bnd_bind, non_bind, ← s_l00Src_leaves.l1_nat, ← s_l00Src_leaves.l2_nat]
def s_l00Src_leaves (s_code : List Int) (s_at : Int) (s_seed : Int) : Option (List ByteArray × List Int × Int × Int) := s_l00Src_leaves.F (fun y0 y1 y2 y3 => some (y0, y1, y2, y3)) s_code s_at s_seed
theorem s_l00Src_leaves_nat {S : Type} (g : (List ByteArray × List Int × Int × Int) → Option S) (s_code : List Int) (s_at : Int) (s_seed : Int) : s_l00Src_leaves.F (fun y0 y1 y2 y3 => g (y0, y1, y2, y3)) s_code s_at s_seed = (s_l00Src_leaves s_code s_at s_seed).bind g := s_l00Src_leaves.F_nat g (fun y0 y1 y2 y3 => some (y0, y1, y2, y3)) s_code s_at s_seed
def s_l00Src_leaves.out : (List ByteArray × List Int × Int × Int) → CRes := fun a => ⟨encL SV.enc [.one (.slv [0] .str)] (a.1, ()), [encL SC.enc [.slv [1] (.int .u8), .int .i64, .int .i64] (a.2.1, a.2.2.1, a.2.2.2, ())]⟩
def s_l00Src_leaves.ps : List PS := [.ptr [some ((.int .u8), false), none, none]]
def s_l00Src_leaves.sA : List SA := [.ptr [.slv [] (.int .u8), .int .i64, .int .i64]]
def s_l00Src_leaves.fi : FI := FIs s_l00Src_leaves.sA (List ByteArray × List Int × Int × Int) (fun t => s_l00Src_leaves t.1.1 t.1.2.1 t.1.2.2.1) s_l00Src_leaves.out s_l00Src_leaves.ps
def s_l00Src_leaves.E : Env := ⟨tt, lkF [(77, s_l06Leaf.fi), (91, s_l00Src_next.fi), (94, s_l00Src_chance.fi)], 51, 1, [], []⟩
def s_l00Src_leaves.sh1 : SK := ⟨[.v (.one (.bptr 0 0)), .v (.one (.slo 1)), .v (.one (.int .i64))], [.box [.slv [1] (.int .u8), .int .i64, .int .i64], .arr .str [] true]⟩
def s_l00Src_leaves.sh1e0 : SK := ⟨[.v (.one (.bptr 0 0)), .v (.one (.slo 1))], [.box [.slv [1] (.int .u8), .int .i64, .int .i64], .arr .str [] true]⟩
def s_l00Src_leaves.ko1 : Ex → List CastAt × List Nat
  | .nrm => ([], [])
  | .ret => ([], [])
  | .ext i => cond (Nat.beq i 0) ([], [0, 3]) ([], [])
def s_l00Src_leaves.G1 (n : Nat) (R : Type) (t : s_l00Src_leaves.sh1.T) (K : Ex → Kp → Option R) : Option R := s_l00Src_leaves.l1 (fun y0 y1 y2 y3 => K (.ext 0) (SK.enc s_l00Src_leaves.sh1e0 (((), (), ()), ((y0, y1, y2, ()), y3, ())))) n t.1.2.2.1 t.2.1.1 t.2.1.2.1 t.2.1.2.2.1 t.2.2.1
def s_l00Src_leaves.S1 : Sum := ⟨([], [0, 3, 4]), sumF s_l00Src_leaves.sh1 (s_l00Src_leaves.G1 fuel), s_l00Src_leaves.ko1⟩
theorem s_l00Src_leaves.ok1 (hE : EOk Try.prog (s_l00Src_leaves.E)) : SumOk Try.prog s_l00Src_leaves.E (cB (cR (cL (cR (cR (bodyOf Try.f81)))))) (s_l00Src_leaves.S1) := by
  have hh : HintOk Try.prog s_l00Src_leaves.E (cB (cB (cR (cL (cR (cR (bodyOf Try.f81))))))) (.a) := HintOk.n1 (Q := True) (by kernel_rfl) trivial
  have h := loopS (kin := ([], [0, 3, 4])) (kout := s_l00Src_leaves.ko1) (sh := s_l00Src_leaves.sh1) (F := s_l00Src_leaves.G1) (ops_ok (hE.gv _)) (by kernel_rfl) hh (fun _ _ _ => rfl) (fun n R t K => by kernel_rfl) fuel
  exact HintOk.n1 (c := (cB (cR (cL (cR (cR (bodyOf Try.f81))))))) (h := .s (s_l00Src_leaves.S1)) (P := Try.prog) (E := s_l00Src_leaves.E) (by kernel_rfl) h
def s_l00Src_leaves.sh2 : SK := ⟨[.v (.one (.bptr 0 0)), .v (.one (.slo 1))], [.box [.slv [1] (.int .u8), .int .i64, .int .i64], .arr .str [] false]⟩
def s_l00Src_leaves.sh2e2 : SK := ⟨[.v (.one (.bptr 0 0)), .v (.one (.slo 1))], [.box [.slv [1] (.int .u8), .int .i64, .int .i64], .arr .str [] false]⟩
def s_l00Src_leaves.ko2 : Ex → List CastAt × List Nat
  | .nrm => ([], [])
  | .ret => ([], [])
  | .ext i => cond (Nat.beq i 2) ([], [0, 3]) ([], [])
def s_l00Src_leaves.G2 (n : Nat) (R : Type) (t : s_l00Src_leaves.sh2.T) (K : Ex → Kp → Option R) : Option R := s_l00Src_leaves.l2 (fun y0 y1 y2 y3 => K (.ext 2) (SK.enc s_l00Src_leaves.sh2e2 (((), (), ()), ((y0, y1, y2, ()), y3, ())))) n t.2.1.1 t.2.1.2.1 t.2.1.2.2.1 t.2.2.1
def s_l00Src_leaves.S2 : Sum := ⟨([⟨3, false, 0, .frz []⟩], [0, 3]), sumF s_l00Src_leaves.sh2 (s_l00Src_leaves.G2 fuel), s_l00Src_leaves.ko2⟩
theorem s_l00Src_leaves.ok2 (hE : EOk Try.prog (s_l00Src_leaves.E)) : SumOk Try.prog s_l00Src_leaves.E (cB (cL (cR (cL (cR (cR (cR (bodyOf Try.f81)))))))) (s_l00Src_leaves.S2) := by
  have hh : HintOk Try.prog s_l00Src_leaves.E (cB (cB (cL (cR (cL (cR (cR (cR (bodyOf Try.f81))))))))) (.a) := HintOk.n1 (Q := True) (by kernel_rfl) trivial
  have h := loopS (kin := ([⟨3, false, 0, .frz []⟩], [0, 3])) (kout := s_l00Src_leaves.ko2) (sh := s_l00Src_leaves.sh2) (F := s_l00Src_leaves.G2) (ops_ok (hE.gv _)) (by kernel_rfl) hh (fun _ _ _ => rfl) (fun n R t K => by kernel_rfl) fuel
  exact HintOk.n1 (c := (cB (cL (cR (cL (cR (cR (cR (bodyOf Try.f81))))))))) (h := .s (s_l00Src_leaves.S2)) (P := Try.prog) (E := s_l00Src_leaves.E) (by kernel_rfl) h
theorem s_l00Src_leaves.hok (hE : EOk Try.prog (s_l00Src_leaves.E)) : HintOk Try.prog s_l00Src_leaves.E (bodyOf Try.f81) (.n (.a) (.n (.a) (.n (.n (.a) (.b (.s (s_l00Src_leaves.S1)))) (.n (.n (.a) (.n (.b (.s (s_l00Src_leaves.S2))) (.a))) (.a))))) := HintOk.n1 (Q := (True) ∧ ((True) ∧ (((True) ∧ (SumOk Try.prog s_l00Src_leaves.E (cB (cR (cL (cR (cR (bodyOf Try.f81)))))) (s_l00Src_leaves.S1))) ∧ (((True) ∧ ((SumOk Try.prog s_l00Src_leaves.E (cB (cL (cR (cL (cR (cR (cR (bodyOf Try.f81)))))))) (s_l00Src_leaves.S2)) ∧ (True))) ∧ (True))))) (by kernel_rfl) ⟨trivial, ⟨trivial, ⟨⟨trivial, (s_l00Src_leaves.ok1 hE)⟩, ⟨⟨trivial, ⟨(s_l00Src_leaves.ok2 hE), trivial⟩⟩, trivial⟩⟩⟩⟩
theorem s_l00Src_leaves.hE : EOk Try.prog (s_l00Src_leaves.E) := EOk.of ttOk (⟨s_l06Leaf.fok, ⟨s_l00Src_next.fok, ⟨s_l00Src_chance.fok, trivial⟩⟩⟩)
theorem s_l00Src_leaves.fok : FOk Try.prog 81 s_l00Src_leaves.fi :=
  fokS (E := s_l00Src_leaves.E) (wy := ⟨[[some (.str, false)]], [[some ((.int .u8), false), none, none]], [⟨2, false, 0, .slv [0] .str⟩]⟩) (h := (fun gs => .n (.a) (.n (.a) (.n (.n (.a) (.b (.s (s_l00Src_leaves.S1)))) (.n (.n (.a) (.n (.b (.s (s_l00Src_leaves.S2))) (.a))) (.a)))))) (G := fun t g => s_l00Src_leaves.F (fun y0 y1 y2 y3 => g (y0, y1, y2, y3)) t.1.1 t.1.2.1 t.1.2.2.1) (by kernel_rfl) s_l00Src_leaves.hE Try.func81 (by kernel_rfl) rfl (Nat.le_refl _) (fun t => HintOk.n1 (by kernel_rfl) (s_l00Src_leaves.hok s_l00Src_leaves.hE)) (fun t g => s_l00Src_leaves_nat g t.1.1 t.1.2.1 t.1.2.2.1) (fun t => by kernel_rfl)
/-! loop.example_g00220_spec.LeavesOf -/
def s_LeavesOf.F {R : Type} (kk : List ByteArray → Option R) (code : List Int) : Option R :=
  (s_l00Source code).bind fun r =>
  (s_l00Src_leaves r.1 r.2.1 r.2.2).bind fun r1 =>
  grd (gSl (0 : Int) (mn2 (40 : Int) (List.length r1.1 : Int)) (List.length r1.1)) <|
  kk (sub r1.1 (0 : Int) (mn2 (40 : Int) (List.length r1.1 : Int)))
theorem s_LeavesOf.F_nat {R S : Type} (g : R → Option S) (kk : List ByteArray → Option R) (code : List Int) : s_LeavesOf.F (fun y0 => (kk y0).bind g) code = (s_LeavesOf.F kk code).bind g := by
  simp only [s_LeavesOf.F, grd_bind, cnd_bind, bnd_bind, non_bind]
def s_LeavesOf (code : List Int) : Option (List ByteArray) := s_LeavesOf.F (fun y0 => some y0) code
theorem s_LeavesOf_nat {S : Type} (g : (List ByteArray) → Option S) (code : List Int) : s_LeavesOf.F (fun y0 => g y0) code = (s_LeavesOf code).bind g := s_LeavesOf.F_nat g (fun y0 => some y0) code
def s_LeavesOf.out : (List ByteArray) → CRes := fun a => ⟨encL SV.enc [.one (.slv [0] .str)] (a, ()), [encL SC.enc [] ()]⟩
def s_LeavesOf.ps : List PS := [.val [some ((.int .u8), false)]]
def s_LeavesOf.sA : List SA := [.v (.one (.slv [] (.int .u8)))]
def s_LeavesOf.fi : FI := FIs s_LeavesOf.sA (List ByteArray) (fun t => s_LeavesOf t.1) s_LeavesOf.out s_LeavesOf.ps
def s_LeavesOf.E : Env := ⟨tt, lkF [(45, s_l00Source.fi), (81, s_l00Src_leaves.fi)], 12, 0, [], []⟩
theorem s_LeavesOf.hok (hE : EOk Try.prog (s_LeavesOf.E)) : HintOk Try.prog s_LeavesOf.E (bodyOf Try.f34) (.a) := HintOk.n1 (Q := True) (by kernel_rfl) trivial
theorem s_LeavesOf.hE : EOk Try.prog (s_LeavesOf.E) := EOk.of ttOk (⟨s_l00Source.fok, ⟨s_l00Src_leaves.fok, trivial⟩⟩)
theorem s_LeavesOf.fok : FOk Try.prog 34 s_LeavesOf.fi :=
  fokS (E := s_LeavesOf.E) (wy := ⟨[[some (.str, false)]], [[]], []⟩) (h := (fun gs => .a)) (G := fun t g => s_LeavesOf.F (fun y0 => g y0) t.1) (by kernel_rfl) s_LeavesOf.hE Try.func34 (by kernel_rfl) rfl (Nat.le_refl _) (fun t => HintOk.n1 (by kernel_rfl) (s_LeavesOf.hok s_LeavesOf.hE)) (fun t g => s_LeavesOf_nat g t.1) (fun t => by kernel_rfl)
/-! loop.example_g00220_laws.at -/
def l_at.F {R : Type} (kk : Int → Option R) (more : List Int) (i : Int) (n_ : Int) : Option R :=
  cond (decide (n_ ≤ (1 : Int))) (kk (0 : Int)) (
    cond ((List.length more : Int) == (0 : Int)) (
      grd (gNz n_) <|
      kk (Int.tmod (IntKind.wrap .i64 (i * (7 : Int))) n_)) (
      grd (gNz (List.length more : Int)) <|
      grd (gIx (Int.tmod i (List.length more : Int)) (List.length more)) <|
      grd (gNz (List.length more : Int)) <|
      grd (gIx (Int.tmod (IntKind.wrap .i64 (i + (1 : Int))) (List.length more : Int)) (List.length more)) <|
      grd (gNz (List.length more : Int)) <|
      grd (gNz n_) <|
      kk (Int.tmod (IntKind.wrap .i64 ((IntKind.wrap .i64 ((IntKind.wrap .i64 ((IntKind.wrap .i64 (rdE (.int .u8 : Kd) more (Int.toNat (Int.tmod i (List.length more : Int))))) * (31 : Int))) + (IntKind.wrap .i64 (rdE (.int .u8 : Kd) more (Int.toNat (Int.tmod (IntKind.wrap .i64 (i + (1 : Int))) (List.length more : Int))))))) + (IntKind.wrap .i64 (Int.tdiv i (List.length more : Int))))) n_)))
theorem l_at.F_nat {R S : Type} (g : R → Option S) (kk : Int → Option R) (more : List Int) (i : Int) (n_ : Int) : l_at.F (fun y0 => (kk y0).bind g) more i n_ = (l_at.F kk more i n_).bind g := by
  simp only [l_at.F, grd_bind, cnd_bind, bnd_bind, non_bind]
def l_at (more : List Int) (i : Int) (n_ : Int) : Option Int := l_at.F (fun y0 => some y0) more i n_
theorem l_at_nat {S : Type} (g : Int → Option S) (more : List Int) (i : Int) (n_ : Int) : l_at.F (fun y0 => g y0) more i n_ = (l_at more i n_).bind g := l_at.F_nat g (fun y0 => some y0) more i n_
def l_at.out : Int → CRes := fun a => ⟨encL SV.enc [.one (.int .i64)] (a, ()), [encL SC.enc [] (), encL SC.enc [] (), encL SC.enc [] ()]⟩
def l_at.ps : List PS := [.val [some ((.int .u8), false)], .val [none], .val [none]]
def l_at.sA : List SA := [.v (.one (.slv [] (.int .u8))), .v (.one (.int .i64)), .v (.one (.int .i64))]
def l_at.fi : FI := FIs l_at.sA (Int) (fun t => l_at t.1 t.2.1 t.2.2.1) l_at.out l_at.ps
def l_at.E : Env := ⟨tt, lkF [], 42, 0, [], []⟩
theorem l_at.hok (hE : EOk Try.prog (l_at.E)) : HintOk Try.prog l_at.E (bodyOf Try.f35) (.a) := HintOk.n1 (Q := True) (by kernel_rfl) trivial
theorem l_at.hE : EOk Try.prog (l_at.E) := EOk.of ttOk (trivial)
theorem l_at.fok : FOk Try.prog 35 l_at.fi :=
  fokS (E := l_at.E) (wy := ⟨[[none]], [[], [], []], []⟩) (h := (fun gs => .a)) (G := fun t g => l_at.F (fun y0 => g y0) t.1 t.2.1 t.2.2.1) (by kernel_rfl) l_at.hE Try.func35 (by kernel_rfl) rfl (Nat.le_refl _) (fun t => HintOk.n1 (by kernel_rfl) (l_at.hok l_at.hE)) (fun t g => l_at_nat g t.1 t.2.1 t.2.2.1) (fun t => by kernel_rfl)
/-! loop.example_g00220_spec.l06Code -/
def s_l06Code.F {R : Type} (kk : Int → Option R) (list : List ByteArray) : Option R :=
  cond (decide ((List.length list : Int) > (4096 : Int))) (kk (2 : Int)) (
    (s_l06Hashes list).bind fun r =>
    cond (!r) (kk (1 : Int)) (kk (0 : Int)))
theorem s_l06Code.F_nat {R S : Type} (g : R → Option S) (kk : Int → Option R) (list : List ByteArray) : s_l06Code.F (fun y0 => (kk y0).bind g) list = (s_l06Code.F kk list).bind g := by
  simp only [s_l06Code.F, grd_bind, cnd_bind, bnd_bind, non_bind]
def s_l06Code (list : List ByteArray) : Option Int := s_l06Code.F (fun y0 => some y0) list
theorem s_l06Code_nat {S : Type} (g : Int → Option S) (list : List ByteArray) : s_l06Code.F (fun y0 => g y0) list = (s_l06Code list).bind g := s_l06Code.F_nat g (fun y0 => some y0) list
def s_l06Code.out : Int → CRes := fun a => ⟨encL SV.enc [.one (.int .i64)] (a, ()), [encL SC.enc [] ()]⟩
def s_l06Code.ps : List PS := [.val [some (.str, false)]]
def s_l06Code.sA : List SA := [.v (.one (.slv [] .str))]
def s_l06Code.fi : FI := FIs s_l06Code.sA (Int) (fun t => s_l06Code t.1) s_l06Code.out s_l06Code.ps
def s_l06Code.E : Env := ⟨tt, lkF [(68, s_l06Hashes.fi)], 9, 0, [], []⟩
theorem s_l06Code.hok (hE : EOk Try.prog (s_l06Code.E)) : HintOk Try.prog s_l06Code.E (bodyOf Try.f82) (.a) := HintOk.n1 (Q := True) (by kernel_rfl) trivial
theorem s_l06Code.hE : EOk Try.prog (s_l06Code.E) := EOk.of ttOk (⟨s_l06Hashes.fok, trivial⟩)
theorem s_l06Code.fok : FOk Try.prog 82 s_l06Code.fi :=
  fokS (E := s_l06Code.E) (wy := ⟨[[none]], [[]], []⟩) (h := (fun gs => .a)) (G := fun t g => s_l06Code.F (fun y0 => g y0) t.1) (by kernel_rfl) s_l06Code.hE Try.func82 (by kernel_rfl) rfl (Nat.le_refl _) (fun t => HintOk.n1 (by kernel_rfl) (s_l06Code.hok s_l06Code.hE)) (fun t g => s_l06Code_nat g t.1) (fun t => by kernel_rfl)
/-! loop.example_g00220_spec.l06Tree -/
def s_l06Tree.F {R : Type} (rc : List ByteArray → Option ByteArray) (kk : ByteArray → Option R) (list : List ByteArray) : Option R :=
  cond ((List.length list : Int) == (0 : Int)) (
    (s_l01Hash ([] : List Int)).bind fun r =>
    kk r) (
    cond ((List.length list : Int) == (1 : Int)) (
      grd (gIx (0 : Int) (List.length list)) <|
      kk (rdE (.str : Kd) list (Int.toNat (0 : Int)))) (
      (s_l06Half (List.length list : Int)).bind fun r1 =>
      grd (gSl (0 : Int) r1 (List.length list)) <|
      (rc (sub list (0 : Int) r1)).bind fun r2 =>
      grd (gSl r1 (List.length list : Int) (List.length list)) <|
      (rc (sub list r1 (List.length list : Int))).bind fun r3 =>
      (s_l06Node r2 r3).bind fun r4 =>
      kk r4))
theorem s_l06Tree.F_nat {R S : Type} (g : R → Option S) (rc : List ByteArray → Option ByteArray) (kk : ByteArray → Option R) (list : List ByteArray) : s_l06Tree.F rc (fun y0 => (kk y0).bind g) list = (s_l06Tree.F rc kk list).bind g := by
  simp only [s_l06Tree.F, grd_bind, cnd_bind, bnd_bind, non_bind]
def s_l06Tree : Nat → List ByteArray → Option ByteArray
  | 0, _ => none
  | fu + 1, list => s_l06Tree.F (s_l06Tree fu) (fun y0 => some y0) list
theorem s_l06Tree_nat {S : Type} (fu : Nat) (g : ByteArray → Option S) (list : List ByteArray) : s_l06Tree.F (s_l06Tree fu) (fun y0 => g y0) list = (s_l06Tree (fu + 1) list).bind g := s_l06Tree.F_nat g (s_l06Tree fu) (fun y0 => some y0) list
def s_l06Tree.out : ByteArray → CRes := fun a => ⟨encL SV.enc [.one (.str)] (a, ()), [encL SC.enc [] ()]⟩
def s_l06Tree.ps : List PS := [.val [some (.str, false)]]
def s_l06Tree.sA : List SA := [.v (.one (.slv [] .str))]
def s_l06Tree.fi (fu : Nat) : FI := FIs s_l06Tree.sA (ByteArray) (fun t => s_l06Tree fu t.1) s_l06Tree.out s_l06Tree.ps
def s_l06Tree.E (fu : Nat) : Env := ⟨tt, lkF [(115, s_l06Half.fi), (116, s_l06Node.fi), (122, s_l01Hash.fi), (125, s_l06Tree.fi fu)], 27, 0, [], []⟩
theorem s_l06Tree.hok (fu : Nat) (hE : EOk Try.prog (s_l06Tree.E fu)) : HintOk Try.prog (s_l06Tree.E fu) (bodyOf Try.f125) (.a) := HintOk.n1 (Q := True) (by kernel_rfl) trivial
theorem s_l06Tree.fok0 : FOk Try.prog 125 (s_l06Tree.fi 0) := FOk.zero ⟨_, _, Try.func125, by kernel_rfl, rfl⟩ (fun _ => rfl)
theorem s_l06Tree.fok1 (fu : Nat) (ih : FOk Try.prog 125 (s_l06Tree.fi fu)) : FOk Try.prog 125 (s_l06Tree.fi (fu + 1)) := by
  have hE : EOk Try.prog (s_l06Tree.E fu) := EOk.of ttOk (⟨s_l06Half.fok, ⟨s_l06Node.fok, ⟨s_l01Hash.fok, ⟨ih, trivial⟩⟩⟩⟩)
  exact fokS (E := s_l06Tree.E fu) (wy := ⟨[[none]], [[]], []⟩) (h := (fun gs => .a)) (G := fun t g => s_l06Tree.F (s_l06Tree fu) (fun y0 => g y0) t.1) (by kernel_rfl) hE Try.func125 (by kernel_rfl) rfl (Nat.le_refl _) (fun t => HintOk.n1 (by kernel_rfl) (s_l06Tree.hok fu hE)) (fun t g => s_l06Tree_nat fu g t.1) (fun t => by kernel_rfl)
theorem s_l06Tree.fok (fu : Nat) : FOk Try.prog 125 (s_l06Tree.fi fu) := Nat.rec s_l06Tree.fok0 s_l06Tree.fok1 fu
/-! loop.example_g00220_spec.l06Path -/
def s_l06Path.F {R : Type} (rc : List ByteArray → Int → Option (List ByteArray)) (kk : List ByteArray → Option R) (list : List ByteArray) (at_ : Int) : Option R :=
  cond ((List.length list : Int) == (1 : Int)) (kk ([] : List ByteArray)) (
    (s_l06Half (List.length list : Int)).bind fun r =>
    cond (decide (at_ < r)) (
      grd (gSl (0 : Int) r (List.length list)) <|
      (rc (sub list (0 : Int) r) at_).bind fun r1 =>
      grd (gSl r (List.length list : Int) (List.length list)) <|
      (s_l06Tree fuel (sub list r (List.length list : Int))).bind fun r2 =>
      grd (gRm (((List.length r1) + (List.length [r2])) * 16)) <|
      kk (r1 ++ [r2])) (
      grd (gSl r (List.length list : Int) (List.length list)) <|
      (rc (sub list r (List.length list : Int)) (IntKind.wrap .i64 (at_ - r))).bind fun r3 =>
      grd (gSl (0 : Int) r (List.length list)) <|
      (s_l06Tree fuel (sub list (0 : Int) r)).bind fun r4 =>
      grd (gRm (((List.length r3) + (List.length [r4])) * 16)) <|
      kk (r3 ++ [r4])))
theorem s_l06Path.F_nat {R S : Type} (g : R → Option S) (rc : List ByteArray → Int → Option (List ByteArray)) (kk : List ByteArray → Option R) (list : List ByteArray) (at_ : Int) : s_l06Path.F rc (fun y0 => (kk y0).bind g) list at_ = (s_l06Path.F rc kk list at_).bind g := by
  simp only [s_l06Path.F, grd_bind, cnd_bind, bnd_bind, non_bind]
def s_l06Path : Nat → List ByteArray → Int → Option (List ByteArray)
  | 0, _, _ => none
  | fu + 1, list, at_ => s_l06Path.F (s_l06Path fu) (fun y0 => some y0) list at_
theorem s_l06Path_nat {S : Type} (fu : Nat) (g : (List ByteArray) → Option S) (list : List ByteArray) (at_ : Int) : s_l06Path.F (s_l06Path fu) (fun y0 => g y0) list at_ = (s_l06Path (fu + 1) list at_).bind g := s_l06Path.F_nat g (s_l06Path fu) (fun y0 => some y0) list at_
def s_l06Path.out : (List ByteArray) → CRes := fun a => ⟨encL SV.enc [.one (.own [] .str true)] (a, ()), [encL SC.enc [] (), encL SC.enc [] ()]⟩
def s_l06Path.ps : List PS := [.val [some (.str, false)], .val [none]]
def s_l06Path.sA : List SA := [.v (.one (.slv [] .str)), .v (.one (.int .i64))]
def s_l06Path.fi (fu : Nat) : FI := FIs s_l06Path.sA (List ByteArray) (fun t => s_l06Path fu t.1 t.2.1) s_l06Path.out s_l06Path.ps
def s_l06Path.E (fu : Nat) : Env := ⟨tt, lkF [(83, s_l06Path.fi fu), (115, s_l06Half.fi), (125, s_l06Tree.fi fuel)], 40, 0, [], []⟩
theorem s_l06Path.hok (fu : Nat) (hE : EOk Try.prog (s_l06Path.E fu)) : HintOk Try.prog (s_l06Path.E fu) (bodyOf Try.f83) (.a) := HintOk.n1 (Q := True) (by kernel_rfl) trivial
theorem s_l06Path.fok0 : FOk Try.prog 83 (s_l06Path.fi 0) := FOk.zero ⟨_, _, Try.func83, by kernel_rfl, rfl⟩ (fun _ => rfl)
theorem s_l06Path.fok1 (fu : Nat) (ih : FOk Try.prog 83 (s_l06Path.fi fu)) : FOk Try.prog 83 (s_l06Path.fi (fu + 1)) := by
  have hE : EOk Try.prog (s_l06Path.E fu) := EOk.of ttOk (⟨ih, ⟨s_l06Half.fok, ⟨s_l06Tree.fok fuel, trivial⟩⟩⟩)
  exact fokS (E := s_l06Path.E fu) (wy := ⟨[[some (.str, true)]], [[], []], []⟩) (h := (fun gs => .a)) (G := fun t g => s_l06Path.F (s_l06Path fu) (fun y0 => g y0) t.1 t.2.1) (by kernel_rfl) hE Try.func83 (by kernel_rfl) rfl (Nat.le_refl _) (fun t => HintOk.n1 (by kernel_rfl) (s_l06Path.hok fu hE)) (fun t g => s_l06Path_nat fu g t.1 t.2.1) (fun t => by kernel_rfl)
theorem s_l06Path.fok (fu : Nat) : FOk Try.prog 83 (s_l06Path.fi fu) := Nat.rec s_l06Path.fok0 s_l06Path.fok1 fu
/-! loop.example_g00220_spec.InclusionProof -/
def s_InclusionProof.F {R : Type} (kk : List ByteArray → Int → Option R) (leaves : List ByteArray) (at_ : Int) : Option R :=
  cond (decide ((List.length leaves : Int) > (4096 : Int))) (kk ([] : List ByteArray) (2 : Int)) (
    (s_l06Code leaves).bind fun r =>
    cond (r != (0 : Int)) (kk ([] : List ByteArray) r) (
      (s_l01In at_ (0 : Int) (IntKind.wrap .i64 ((List.length leaves : Int) - (1 : Int)))).bind fun r1 =>
      cond (!r1) (kk ([] : List ByteArray) (4 : Int)) (
        (s_l06Path fuel leaves at_).bind fun r2 =>
        kk r2 (0 : Int))))
theorem s_InclusionProof.F_nat {R S : Type} (g : R → Option S) (kk : List ByteArray → Int → Option R) (leaves : List ByteArray) (at_ : Int) : s_InclusionProof.F (fun y0 y1 => (kk y0 y1).bind g) leaves at_ = (s_InclusionProof.F kk leaves at_).bind g := by
  simp only [s_InclusionProof.F, grd_bind, cnd_bind, bnd_bind, non_bind]
def s_InclusionProof (leaves : List ByteArray) (at_ : Int) : Option (List ByteArray × Int) := s_InclusionProof.F (fun y0 y1 => some (y0, y1)) leaves at_
theorem s_InclusionProof_nat {S : Type} (g : (List ByteArray × Int) → Option S) (leaves : List ByteArray) (at_ : Int) : s_InclusionProof.F (fun y0 y1 => g (y0, y1)) leaves at_ = (s_InclusionProof leaves at_).bind g := s_InclusionProof.F_nat g (fun y0 y1 => some (y0, y1)) leaves at_
def s_InclusionProof.out : (List ByteArray × Int) → CRes := fun a => ⟨encL SV.enc [.one (.own [] .str true), .one (.int .i64)] (a.1, a.2, ()), [encL SC.enc [] (), encL SC.enc [] ()]⟩
def s_InclusionProof.ps : List PS := [.val [some (.str, false)], .val [none]]
def s_InclusionProof.sA : List SA := [.v (.one (.slv [] .str)), .v (.one (.int .i64))]
def s_InclusionProof.fi : FI := FIs s_InclusionProof.sA (List ByteArray × Int) (fun t => s_InclusionProof t.1 t.2.1) s_InclusionProof.out s_InclusionProof.ps
def s_InclusionProof.E : Env := ⟨tt, lkF [(69, s_l01In.fi), (82, s_l06Code.fi), (83, s_l06Path.fi fuel)], 27, 0, [], []⟩
theorem s_InclusionProof.hok (hE : EOk Try.prog (s_InclusionProof.E)) : HintOk Try.prog s_InclusionProof.E (bodyOf Try.f36) (.a) := HintOk.n1 (Q := True) (by kernel_rfl) trivial
theorem s_InclusionProof.hE : EOk Try.prog (s_InclusionProof.E) := EOk.of ttOk (⟨s_l01In.fok, ⟨s_l06Code.fok, ⟨s_l06Path.fok fuel, trivial⟩⟩⟩)
theorem s_InclusionProof.fok : FOk Try.prog 36 s_InclusionProof.fi :=
  fokS (E := s_InclusionProof.E) (wy := ⟨[[some (.str, true)], [none]], [[], []], []⟩) (h := (fun gs => .a)) (G := fun t g => s_InclusionProof.F (fun y0 y1 => g (y0, y1)) t.1 t.2.1) (by kernel_rfl) s_InclusionProof.hE Try.func36 (by kernel_rfl) rfl (Nat.le_refl _) (fun t => HintOk.n1 (by kernel_rfl) (s_InclusionProof.hok s_InclusionProof.hE)) (fun t g => s_InclusionProof_nat g t.1 t.2.1) (fun t => by kernel_rfl)
/-! __loop.example_g00220_spec.l00Src_.digest -/
def s_l00Src_digest.F {R : Type} (kk : ByteArray → List Int → Int → Int → Option R) (s_code : List Int) (s_at : Int) (s_seed : Int) : Option R :=
  (s_l00Src_next s_code s_at s_seed (256 : Int)).bind fun r =>
  (s_l00Src_next r.2.1 r.2.2.1 r.2.2.2 (4 : Int)).bind fun r1 =>
  (s_l01Hash [IntKind.wrap .u8 r.1, IntKind.wrap .u8 r1.1]).bind fun r2 =>
  kk r2 r1.2.1 r1.2.2.1 r1.2.2.2
theorem s_l00Src_digest.F_nat {R S : Type} (g : R → Option S) (kk : ByteArray → List Int → Int → Int → Option R) (s_code : List Int) (s_at : Int) (s_seed : Int) : s_l00Src_digest.F (fun y0 y1 y2 y3 => (kk y0 y1 y2 y3).bind g) s_code s_at s_seed = (s_l00Src_digest.F kk s_code s_at s_seed).bind g := by
  simp only [s_l00Src_digest.F, grd_bind, cnd_bind, bnd_bind, non_bind]
def s_l00Src_digest (s_code : List Int) (s_at : Int) (s_seed : Int) : Option (ByteArray × List Int × Int × Int) := s_l00Src_digest.F (fun y0 y1 y2 y3 => some (y0, y1, y2, y3)) s_code s_at s_seed
theorem s_l00Src_digest_nat {S : Type} (g : (ByteArray × List Int × Int × Int) → Option S) (s_code : List Int) (s_at : Int) (s_seed : Int) : s_l00Src_digest.F (fun y0 y1 y2 y3 => g (y0, y1, y2, y3)) s_code s_at s_seed = (s_l00Src_digest s_code s_at s_seed).bind g := s_l00Src_digest.F_nat g (fun y0 y1 y2 y3 => some (y0, y1, y2, y3)) s_code s_at s_seed
def s_l00Src_digest.out : (ByteArray × List Int × Int × Int) → CRes := fun a => ⟨encL SV.enc [.one (.str)] (a.1, ()), [encL SC.enc [.slv [1] (.int .u8), .int .i64, .int .i64] (a.2.1, a.2.2.1, a.2.2.2, ())]⟩
def s_l00Src_digest.ps : List PS := [.ptr [some ((.int .u8), false), none, none]]
def s_l00Src_digest.sA : List SA := [.ptr [.slv [] (.int .u8), .int .i64, .int .i64]]
def s_l00Src_digest.fi : FI := FIs s_l00Src_digest.sA (ByteArray × List Int × Int × Int) (fun t => s_l00Src_digest t.1.1 t.1.2.1 t.1.2.2.1) s_l00Src_digest.out s_l00Src_digest.ps
def s_l00Src_digest.E : Env := ⟨tt, lkF [(91, s_l00Src_next.fi), (122, s_l01Hash.fi)], 11, 1, [], []⟩
theorem s_l00Src_digest.hok (hE : EOk Try.prog (s_l00Src_digest.E)) : HintOk Try.prog s_l00Src_digest.E (bodyOf Try.f84) (.a) := HintOk.n1 (Q := True) (by kernel_rfl) trivial
theorem s_l00Src_digest.hE : EOk Try.prog (s_l00Src_digest.E) := EOk.of ttOk (⟨s_l00Src_next.fok, ⟨s_l01Hash.fok, trivial⟩⟩)
theorem s_l00Src_digest.fok : FOk Try.prog 84 s_l00Src_digest.fi :=
  fokS (E := s_l00Src_digest.E) (wy := ⟨[[none]], [[some ((.int .u8), false), none, none]], []⟩) (h := (fun gs => .a)) (G := fun t g => s_l00Src_digest.F (fun y0 y1 y2 y3 => g (y0, y1, y2, y3)) t.1.1 t.1.2.1 t.1.2.2.1) (by kernel_rfl) s_l00Src_digest.hE Try.func84 (by kernel_rfl) rfl (Nat.le_refl _) (fun t => HintOk.n1 (by kernel_rfl) (s_l00Src_digest.hok s_l00Src_digest.hE)) (fun t g => s_l00Src_digest_nat g t.1.1 t.1.2.1 t.1.2.2.1) (fun t => by kernel_rfl)
/-! loop.example_g00220_spec.HashOf -/
def s_HashOf.F {R : Type} (kk : ByteArray → Option R) (code : List Int) : Option R :=
  (s_l00Source code).bind fun r =>
  (s_l00Src_digest r.1 r.2.1 r.2.2).bind fun r1 =>
  kk r1.1
theorem s_HashOf.F_nat {R S : Type} (g : R → Option S) (kk : ByteArray → Option R) (code : List Int) : s_HashOf.F (fun y0 => (kk y0).bind g) code = (s_HashOf.F kk code).bind g := by
  simp only [s_HashOf.F, grd_bind, cnd_bind, bnd_bind, non_bind]
def s_HashOf (code : List Int) : Option ByteArray := s_HashOf.F (fun y0 => some y0) code
theorem s_HashOf_nat {S : Type} (g : ByteArray → Option S) (code : List Int) : s_HashOf.F (fun y0 => g y0) code = (s_HashOf code).bind g := s_HashOf.F_nat g (fun y0 => some y0) code
def s_HashOf.out : ByteArray → CRes := fun a => ⟨encL SV.enc [.one (.str)] (a, ()), [encL SC.enc [] ()]⟩
def s_HashOf.ps : List PS := [.val [some ((.int .u8), false)]]
def s_HashOf.sA : List SA := [.v (.one (.slv [] (.int .u8)))]
def s_HashOf.fi : FI := FIs s_HashOf.sA (ByteArray) (fun t => s_HashOf t.1) s_HashOf.out s_HashOf.ps
def s_HashOf.E : Env := ⟨tt, lkF [(45, s_l00Source.fi), (84, s_l00Src_digest.fi)], 6, 0, [], []⟩
theorem s_HashOf.hok (hE : EOk Try.prog (s_HashOf.E)) : HintOk Try.prog s_HashOf.E (bodyOf Try.f37) (.a) := HintOk.n1 (Q := True) (by kernel_rfl) trivial
theorem s_HashOf.hE : EOk Try.prog (s_HashOf.E) := EOk.of ttOk (⟨s_l00Source.fok, ⟨s_l00Src_digest.fok, trivial⟩⟩)
theorem s_HashOf.fok : FOk Try.prog 37 s_HashOf.fi :=
  fokS (E := s_HashOf.E) (wy := ⟨[[none]], [[]], []⟩) (h := (fun gs => .a)) (G := fun t g => s_HashOf.F (fun y0 => g y0) t.1) (by kernel_rfl) s_HashOf.hE Try.func37 (by kernel_rfl) rfl (Nat.le_refl _) (fun t => HintOk.n1 (by kernel_rfl) (s_HashOf.hok s_HashOf.hE)) (fun t g => s_HashOf_nat g t.1) (fun t => by kernel_rfl)
/-! loop.example_g00220_impl.Hash -/
def i_Hash.F {R : Type} (kk : ByteArray → Option R) (b : List Int) : Option R :=
  cond (decide ((List.length b : Int) > (65536 : Int))) (kk ByteArray.empty) (
    (i_hash (strL b)).bind fun r =>
    kk r)
theorem i_Hash.F_nat {R S : Type} (g : R → Option S) (kk : ByteArray → Option R) (b : List Int) : i_Hash.F (fun y0 => (kk y0).bind g) b = (i_Hash.F kk b).bind g := by
  simp only [i_Hash.F, grd_bind, cnd_bind, bnd_bind, non_bind]
def i_Hash (b : List Int) : Option ByteArray := i_Hash.F (fun y0 => some y0) b
theorem i_Hash_nat {S : Type} (g : ByteArray → Option S) (b : List Int) : i_Hash.F (fun y0 => g y0) b = (i_Hash b).bind g := i_Hash.F_nat g (fun y0 => some y0) b
def i_Hash.out : ByteArray → CRes := fun a => ⟨encL SV.enc [.one (.str)] (a, ()), [encL SC.enc [] ()]⟩
def i_Hash.ps : List PS := [.val [some ((.int .u8), false)]]
def i_Hash.sA : List SA := [.v (.one (.slv [] (.int .u8)))]
def i_Hash.fi : FI := FIs i_Hash.sA (ByteArray) (fun t => i_Hash t.1) i_Hash.out i_Hash.ps
def i_Hash.E : Env := ⟨tt, lkF [(85, i_hash.fi)], 9, 0, [], []⟩
theorem i_Hash.hok (hE : EOk Try.prog (i_Hash.E)) : HintOk Try.prog i_Hash.E (bodyOf Try.f38) (.a) := HintOk.n1 (Q := True) (by kernel_rfl) trivial
theorem i_Hash.hE : EOk Try.prog (i_Hash.E) := EOk.of ttOk (⟨i_hash.fok, trivial⟩)
theorem i_Hash.fok : FOk Try.prog 38 i_Hash.fi :=
  fokS (E := i_Hash.E) (wy := ⟨[[none]], [[]], []⟩) (h := (fun gs => .a)) (G := fun t g => i_Hash.F (fun y0 => g y0) t.1) (by kernel_rfl) i_Hash.hE Try.func38 (by kernel_rfl) rfl (Nat.le_refl _) (fun t => HintOk.n1 (by kernel_rfl) (i_Hash.hok i_Hash.hE)) (fun t g => i_Hash_nat g t.1) (fun t => by kernel_rfl)
/-! loop.example_g00220_laws.sameTexts -/
def l_sameTexts.l1 {R : Type} (kke0 : Option R) (kkr : Bool → Option R) : Nat → List ByteArray → List ByteArray → Int → Option R
  | 0, _, _, _ => none
  | n + 1, a, b, i =>
    cond (decide (i < (List.length a : Int))) (
      grd (gIx i (List.length a)) <|
      grd (gIx i (List.length b)) <|
      cond (!(sEq (rdE (.str : Kd) a (Int.toNat i)) (rdE (.str : Kd) b (Int.toNat i)))) (kkr false) (l_sameTexts.l1 kke0 kkr n a b (IntKind.wrap .i64 (i + (1 : Int))))) (kke0)
theorem l_sameTexts.l1_nat {R S : Type} (g : R → Option S) (kke0 : Option R) (kkr : Bool → Option R) : ∀ (n : Nat) (a : List ByteArray) (b : List ByteArray) (i : Int), l_sameTexts.l1 (kke0.bind g) (fun y0 => (kkr y0).bind g) n a b i = (l_sameTexts.l1 kke0 kkr n a b i).bind g := by
  intro n
  induction n with
  | zero => intros; rfl
  | succ n ih => intros; simp only [l_sameTexts.l1, grd_bind, cnd_bind, bnd_bind, non_bind, ih]
def l_sameTexts.F {R : Type} (kk : Bool → Option R) (a : List ByteArray) (b : List ByteArray) : Option R :=
  cond ((List.length a : Int) != (List.length b : Int)) (kk false) (l_sameTexts.l1 (kk true) (fun b1 => kk b1) fuel a b (0 : Int))
theorem l_sameTexts.F_nat {R S : Type} (g : R → Option S) (kk : Bool → Option R) (a : List ByteArray) (b : List ByteArray) : l_sameTexts.F (fun y0 => (kk y0).bind g) a b = (l_sameTexts.F kk a b).bind g := by
  simp only [l_sameTexts.F, grd_bind, cnd_bind, bnd_bind, non_bind, ← l_sameTexts.l1_nat]
def l_sameTexts (a : List ByteArray) (b : List ByteArray) : Option Bool := l_sameTexts.F (fun y0 => some y0) a b
theorem l_sameTexts_nat {S : Type} (g : Bool → Option S) (a : List ByteArray) (b : List ByteArray) : l_sameTexts.F (fun y0 => g y0) a b = (l_sameTexts a b).bind g := l_sameTexts.F_nat g (fun y0 => some y0) a b
def l_sameTexts.out : Bool → CRes := fun a => ⟨encL SV.enc [.one (.bool)] (a, ()), [encL SC.enc [] (), encL SC.enc [] ()]⟩
def l_sameTexts.ps : List PS := [.val [some (.str, false)], .val [some (.str, false)]]
def l_sameTexts.sA : List SA := [.v (.one (.slv [] .str)), .v (.one (.slv [] .str))]
def l_sameTexts.fi : FI := FIs l_sameTexts.sA (Bool) (fun t => l_sameTexts t.1 t.2.1) l_sameTexts.out l_sameTexts.ps
def l_sameTexts.E : Env := ⟨tt, lkF [], 26, 0, [], []⟩
def l_sameTexts.sh1 : SK := ⟨[.v (.one (.slv [1] .str)), .v (.one (.slv [2] .str)), .v (.one (.int .i64))], []⟩
def l_sameTexts.sh1e0 : SK := ⟨[], []⟩
def l_sameTexts.sh1r : SK := ⟨[.v (.one (.bool))], []⟩
def l_sameTexts.ko1 : Ex → List CastAt × List Nat
  | .nrm => ([], [])
  | .ret => ([], [4])
  | .ext i => cond (Nat.beq i 0) ([], []) ([], [])
def l_sameTexts.G1 (n : Nat) (R : Type) (t : l_sameTexts.sh1.T) (K : Ex → Kp → Option R) : Option R := l_sameTexts.l1 (K (.ext 0) (SK.enc l_sameTexts.sh1e0 ((), ()))) (fun y0 => K .ret (SK.enc l_sameTexts.sh1r ((y0, ()), ()))) n t.1.1 t.1.2.1 t.1.2.2.1
def l_sameTexts.S1 : Sum := ⟨([], [0, 1, 5]), sumF l_sameTexts.sh1 (l_sameTexts.G1 fuel), l_sameTexts.ko1⟩
theorem l_sameTexts.ok1 (hE : EOk Try.prog (l_sameTexts.E)) : SumOk Try.prog l_sameTexts.E (cB (cR (cL (cR (cR (bodyOf Try.f39)))))) (l_sameTexts.S1) := by
  have hh : HintOk Try.prog l_sameTexts.E (cB (cB (cR (cL (cR (cR (bodyOf Try.f39))))))) (.a) := HintOk.n1 (Q := True) (by kernel_rfl) trivial
  have h := loopS (kin := ([], [0, 1, 5])) (kout := l_sameTexts.ko1) (sh := l_sameTexts.sh1) (F := l_sameTexts.G1) (ops_ok (hE.gv _)) (by kernel_rfl) hh (fun _ _ _ => rfl) (fun n R t K => by kernel_rfl) fuel
  exact HintOk.n1 (c := (cB (cR (cL (cR (cR (bodyOf Try.f39))))))) (h := .s (l_sameTexts.S1)) (P := Try.prog) (E := l_sameTexts.E) (by kernel_rfl) h
theorem l_sameTexts.hok (hE : EOk Try.prog (l_sameTexts.E)) : HintOk Try.prog l_sameTexts.E (bodyOf Try.f39) (.n (.a) (.n (.a) (.n (.n (.a) (.b (.s (l_sameTexts.S1)))) (.a)))) := HintOk.n1 (Q := (True) ∧ ((True) ∧ (((True) ∧ (SumOk Try.prog l_sameTexts.E (cB (cR (cL (cR (cR (bodyOf Try.f39)))))) (l_sameTexts.S1))) ∧ (True)))) (by kernel_rfl) ⟨trivial, ⟨trivial, ⟨⟨trivial, (l_sameTexts.ok1 hE)⟩, trivial⟩⟩⟩
theorem l_sameTexts.hE : EOk Try.prog (l_sameTexts.E) := EOk.of ttOk (trivial)
theorem l_sameTexts.fok : FOk Try.prog 39 l_sameTexts.fi :=
  fokS (E := l_sameTexts.E) (wy := ⟨[[none]], [[], []], []⟩) (h := (fun gs => .n (.a) (.n (.a) (.n (.n (.a) (.b (.s (l_sameTexts.S1)))) (.a))))) (G := fun t g => l_sameTexts.F (fun y0 => g y0) t.1 t.2.1) (by kernel_rfl) l_sameTexts.hE Try.func39 (by kernel_rfl) rfl (Nat.le_refl _) (fun t => HintOk.n1 (by kernel_rfl) (l_sameTexts.hok l_sameTexts.hE)) (fun t g => l_sameTexts_nat g t.1 t.2.1) (fun t => by kernel_rfl)
/-! loop.example_g00220_laws.FnCollision -/
def l_FnCollision.j1 {R : Type} (kkn : List Int → List ByteArray → Int → Int → ByteArray → Bool → List ByteArray → List ByteArray → Option R) (more : List Int) (list : List ByteArray) (k_ : Int) (c : Int) (leaf : ByteArray) (p : List ByteArray) (q : List ByteArray) : Option R :=
  cond (decide ((List.length q : Int) > (0 : Int))) (
    (l_at more (1 : Int) (2 : Int)).bind fun r =>
    kkn more list k_ c leaf (r == (0 : Int)) p q) (kkn more list k_ c leaf false p q)
theorem l_FnCollision.j1_nat {R S : Type} (g : R → Option S) (kkn : List Int → List ByteArray → Int → Int → ByteArray → Bool → List ByteArray → List ByteArray → Option R) (more : List Int) (list : List ByteArray) (k_ : Int) (c : Int) (leaf : ByteArray) (p : List ByteArray) (q : List ByteArray) : l_FnCollision.j1 (fun y0 y1 y2 y3 y4 y5 y6 y7 => (kkn y0 y1 y2 y3 y4 y5 y6 y7).bind g) more list k_ c leaf p q = (l_FnCollision.j1 kkn more list k_ c leaf p q).bind g := by
  simp only [l_FnCollision.j1, grd_bind, cnd_bind, bnd_bind, non_bind]
def l_FnCollision.j2 {R : Type} (kkn : List ByteArray → Int → Int → ByteArray → List ByteArray → List ByteArray → Option R) (more : List Int) (list : List ByteArray) (k_ : Int) (c : Int) (leaf : ByteArray) (p : List ByteArray) (q : List ByteArray) : Option R :=
  l_FnCollision.j1 (fun more1 list1 k_1 c1 leaf1 b p1 q1 =>
    cond (b) (
      (l_at more1 (2 : Int) (List.length q1 : Int)).bind fun r =>
      grd (gIx r (List.length q1)) <|
      grd (gIx k_1 (List.length list1)) <|
      kkn list1 k_1 c1 (rdE (.str : Kd) list1 (Int.toNat k_1)) p1 (setE (.str : Kd) q1 (Int.toNat r) leaf1)) (kkn list1 k_1 c1 leaf1 p1 q1)) more list k_ c leaf p q
theorem l_FnCollision.j2_nat {R S : Type} (g : R → Option S) (kkn : List ByteArray → Int → Int → ByteArray → List ByteArray → List ByteArray → Option R) (more : List Int) (list : List ByteArray) (k_ : Int) (c : Int) (leaf : ByteArray) (p : List ByteArray) (q : List ByteArray) : l_FnCollision.j2 (fun y0 y1 y2 y3 y4 y5 => (kkn y0 y1 y2 y3 y4 y5).bind g) more list k_ c leaf p q = (l_FnCollision.j2 kkn more list k_ c leaf p q).bind g := by
  simp only [l_FnCollision.j2, grd_bind, cnd_bind, bnd_bind, non_bind, ← l_FnCollision.j1_nat]
def l_FnCollision.F {R : Type} (kk : Bool → Option R) (code : List Int) (more : List Int) : Option R :=
  cond (decide ((List.length code : Int) > (1048576 : Int))) (kk true) (
    cond (decide ((List.length more : Int) > (1048576 : Int))) (kk true) (
      (s_LeavesOf code).bind fun r =>
      cond ((List.length r : Int) == (0 : Int)) (kk true) (
        (l_at more (0 : Int) (List.length r : Int)).bind fun r1 =>
        (s_InclusionProof r r1).bind fun r2 =>
        grd (gIx r1 (List.length r)) <|
        grd (gIx r1 (List.length r)) <|
        (i_Collision r1 (List.length r : Int) (rdE (.str : Kd) r (Int.toNat r1)) r2.1 (rdE (.str : Kd) r (Int.toNat r1)) r2.1).bind fun r3 =>
        (s_HashOf more).bind fun r4 =>
        grd (gRm (((List.length ([] : List ByteArray)) + (List.length r2.1)) * 16)) <|
        l_FnCollision.j2 (fun list k_ c leaf p q =>
          grd (gIx k_ (List.length list)) <|
          (i_Collision k_ (List.length list : Int) (rdE (.str : Kd) list (Int.toNat k_)) p leaf q).bind fun r5 =>
          grd (gIx k_ (List.length list)) <|
          (s_Collision k_ (List.length list : Int) (rdE (.str : Kd) list (Int.toNat k_)) p leaf q).bind fun r6 =>
          cond (c != (5 : Int)) (kk false) (
            cond (r5.2.2 != r6.2.2) (kk false) (
              cond (!(sEq r5.1 r6.1)) (kk false) (
                cond (!(sEq r5.2.1 r6.2.1)) (kk false) (
                  cond (r5.2.2 == (0 : Int)) (
                    cond (!(sEq r5.1 r5.2.1)) (
                      (i_Hash (bytesL r5.1)).bind fun r7 =>
                      (i_Hash (bytesL r5.2.1)).bind fun r8 =>
                      kk (sEq r7 r8)) (kk false)) (
                    cond (r5.2.2 == (11 : Int)) (kk true) (
                      cond (r5.2.2 == (5 : Int)) (
                        grd (gIx k_ (List.length list)) <|
                        cond (sEq leaf (rdE (.str : Kd) list (Int.toNat k_))) (
                          (l_sameTexts p q).bind fun r9 =>
                          kk r9) (kk false)) (kk false)))))))) more r r1 r3.2.2 r4 r2.1 (([] : List ByteArray) ++ r2.1))))
theorem l_FnCollision.F_nat {R S : Type} (g : R → Option S) (kk : Bool → Option R) (code : List Int) (more : List Int) : l_FnCollision.F (fun y0 => (kk y0).bind g) code more = (l_FnCollision.F kk code more).bind g := by
  simp only [l_FnCollision.F, grd_bind, cnd_bind, bnd_bind, non_bind, ← l_FnCollision.j2_nat]
def l_FnCollision (code : List Int) (more : List Int) : Option Bool := l_FnCollision.F (fun y0 => some y0) code more
theorem l_FnCollision_nat {S : Type} (g : Bool → Option S) (code : List Int) (more : List Int) : l_FnCollision.F (fun y0 => g y0) code more = (l_FnCollision code more).bind g := l_FnCollision.F_nat g (fun y0 => some y0) code more
def l_FnCollision.out : Bool → CRes := fun a => ⟨encL SV.enc [.one (.bool)] (a, ()), [encL SC.enc [] (), encL SC.enc [] ()]⟩
def l_FnCollision.ps : List PS := [.val [some ((.int .u8), false)], .val [some ((.int .u8), false)]]
def l_FnCollision.sA : List SA := [.v (.one (.slv [] (.int .u8))), .v (.one (.slv [] (.int .u8)))]
def l_FnCollision.fi : FI := FIs l_FnCollision.sA (Bool) (fun t => l_FnCollision t.1 t.2.1) l_FnCollision.out l_FnCollision.ps
def l_FnCollision.E : Env := ⟨tt, lkF [(28, s_Collision.fi), (29, i_Collision.fi), (34, s_LeavesOf.fi), (35, l_at.fi), (36, s_InclusionProof.fi), (37, s_HashOf.fi), (38, i_Hash.fi), (39, l_sameTexts.fi)], 165, 0, [], []⟩
def l_FnCollision.sh1 : SK := ⟨[.v (.one (.slv [2] (.int .u8))), .v (.one (.slv [0] .str)), .v (.one (.int .i64)), .v (.one (.slo 0)), .v (.one (.int .i64)), .v (.one (.str)), .v (.one (.slo 1))], [.arr .str [] true, .arr .str [] true]⟩
def l_FnCollision.sh1n : SK := ⟨[.v (.one (.slv [2] (.int .u8))), .v (.one (.slv [0] .str)), .v (.one (.int .i64)), .v (.one (.slo 0)), .v (.one (.int .i64)), .v (.one (.str)), .v (.one (.slo 1)), .v (.one (.bool))], [.arr .str [] true, .arr .str [] true]⟩
def l_FnCollision.ko1 : Ex → List CastAt × List Nat
  | .nrm => ([], [1, 5, 6, 7, 11, 12, 13, 73])
  | .ret => ([], [])
  | .ext i => ([], [])
def l_FnCollision.G1 (R : Type) (t : l_FnCollision.sh1.T) (K : Ex → Kp → Option R) : Option R := l_FnCollision.j1 (fun y0 y1 y2 y3 y4 y5 y6 y7 => K .nrm (SK.enc l_FnCollision.sh1n ((y0, y1, y2, (), y3, y4, (), y5, ()), (y6, y7, ())))) t.1.1 t.1.2.1 t.1.2.2.1 t.1.2.2.2.2.1 t.1.2.2.2.2.2.1 t.2.1 t.2.2.1
def l_FnCollision.S1 : Sum := ⟨([], [1, 5, 6, 7, 11, 12, 13]), sumF l_FnCollision.sh1 (l_FnCollision.G1), l_FnCollision.ko1⟩
theorem l_FnCollision.ok1 (hE : EOk Try.prog (l_FnCollision.E)) : SumOk Try.prog l_FnCollision.E (cL (cL (cR (cR (cR (cR (cR (cR (cR (cR (cR (bodyOf Try.f7)))))))))))) (l_FnCollision.S1) := by
  have hh : HintOk Try.prog l_FnCollision.E (cL (cL (cR (cR (cR (cR (cR (cR (cR (cR (cR (bodyOf Try.f7)))))))))))) (.a) := HintOk.n1 (Q := True) (by kernel_rfl) trivial
  exact sumS (kin := ([], [1, 5, 6, 7, 11, 12, 13])) (kout := l_FnCollision.ko1) (sh := l_FnCollision.sh1) (F := l_FnCollision.G1) (ops_ok (hE.gv _)) (by kernel_rfl) hh (fun R t K => by kernel_rfl)
def l_FnCollision.sh2 : SK := ⟨[.v (.one (.slv [2] (.int .u8))), .v (.one (.slv [0] .str)), .v (.one (.int .i64)), .v (.one (.slo 0)), .v (.one (.int .i64)), .v (.one (.str)), .v (.one (.slo 1))], [.arr .str [] true, .arr .str [] true]⟩
def l_FnCollision.sh2n : SK := ⟨[.v (.one (.slv [0] .str)), .v (.one (.int .i64)), .v (.one (.slo 0)), .v (.one (.int .i64)), .v (.one (.str)), .v (.one (.slo 1))], [.arr .str [] true, .arr .str [] true]⟩
def l_FnCollision.ko2 : Ex → List CastAt × List Nat
  | .nrm => ([], [5, 6, 7, 11, 12, 13])
  | .ret => ([], [])
  | .ext i => ([], [])
def l_FnCollision.G2 (R : Type) (t : l_FnCollision.sh2.T) (K : Ex → Kp → Option R) : Option R := l_FnCollision.j2 (fun y0 y1 y2 y3 y4 y5 => K .nrm (SK.enc l_FnCollision.sh2n ((y0, y1, (), y2, y3, (), ()), (y4, y5, ())))) t.1.1 t.1.2.1 t.1.2.2.1 t.1.2.2.2.2.1 t.1.2.2.2.2.2.1 t.2.1 t.2.2.1
def l_FnCollision.S2 : Sum := ⟨([], [1, 5, 6, 7, 11, 12, 13]), sumF l_FnCollision.sh2 (l_FnCollision.G2), l_FnCollision.ko2⟩
theorem l_FnCollision.ok2 (hE : EOk Try.prog (l_FnCollision.E)) : SumOk Try.prog l_FnCollision.E (cL (cR (cR (cR (cR (cR (cR (cR (cR (cR (bodyOf Try.f7))))))))))) (l_FnCollision.S2) := by
  have hh : HintOk Try.prog l_FnCollision.E (cL (cR (cR (cR (cR (cR (cR (cR (cR (cR (bodyOf Try.f7))))))))))) (.n (.s (l_FnCollision.S1)) (.a)) := HintOk.n1 (Q := (SumOk Try.prog l_FnCollision.E (cL (cL (cR (cR (cR (cR (cR (cR (cR (cR (cR (bodyOf Try.f7)))))))))))) (l_FnCollision.S1)) ∧ (True)) (by kernel_rfl) ⟨(l_FnCollision.ok1 hE), trivial⟩
  exact sumS (kin := ([], [1, 5, 6, 7, 11, 12, 13])) (kout := l_FnCollision.ko2) (sh := l_FnCollision.sh2) (F := l_FnCollision.G2) (ops_ok (hE.gv _)) (by kernel_rfl) hh (fun R t K => by kernel_rfl)
theorem l_FnCollision.hok (hE : EOk Try.prog (l_FnCollision.E)) : HintOk Try.prog l_FnCollision.E (bodyOf Try.f7) (.n (.a) (.n (.a) (.n (.a) (.n (.a) (.n (.a) (.n (.a) (.n (.a) (.n (.a) (.n (.a) (.n (.s (l_FnCollision.S2)) (.a))))))))))) := HintOk.n1 (Q := (True) ∧ ((True) ∧ ((True) ∧ ((True) ∧ ((True) ∧ ((True) ∧ ((True) ∧ ((True) ∧ ((True) ∧ ((SumOk Try.prog l_FnCollision.E (cL (cR (cR (cR (cR (cR (cR (cR (cR (cR (bodyOf Try.f7))))))))))) (l_FnCollision.S2)) ∧ (True))))))))))) (by kernel_rfl) ⟨trivial, ⟨trivial, ⟨trivial, ⟨trivial, ⟨trivial, ⟨trivial, ⟨trivial, ⟨trivial, ⟨trivial, ⟨(l_FnCollision.ok2 hE), trivial⟩⟩⟩⟩⟩⟩⟩⟩⟩⟩
theorem l_FnCollision.hE : EOk Try.prog (l_FnCollision.E) := EOk.of ttOk (⟨s_Collision.fok, ⟨i_Collision.fok, ⟨s_LeavesOf.fok, ⟨l_at.fok, ⟨s_InclusionProof.fok, ⟨s_HashOf.fok, ⟨i_Hash.fok, ⟨l_sameTexts.fok, trivial⟩⟩⟩⟩⟩⟩⟩⟩)
theorem l_FnCollision.fok : FOk Try.prog 7 l_FnCollision.fi :=
  fokS (E := l_FnCollision.E) (wy := ⟨[[none]], [[], []], []⟩) (h := (fun gs => .n (.a) (.n (.a) (.n (.a) (.n (.a) (.n (.a) (.n (.a) (.n (.a) (.n (.a) (.n (.a) (.n (.s (l_FnCollision.S2)) (.a)))))))))))) (G := fun t g => l_FnCollision.F (fun y0 => g y0) t.1 t.2.1) (by kernel_rfl) l_FnCollision.hE Try.func7 (by kernel_rfl) rfl (Nat.le_refl _) (fun t => HintOk.n1 (by kernel_rfl) (l_FnCollision.hok l_FnCollision.hE)) (fun t g => l_FnCollision_nat g t.1 t.2.1) (fun t => by kernel_rfl)
end
end Go.Proofs.YtdpjbeeokimnaaaA
