/-
  Functions of the program, and that the small machine's runs are these. No condition.
  Printed by wip/amp/main.py (a session's own program) out of Lean's print of the program; Lean's kernel checks it.
-/
import Derived.Test.YtdhifkdijlghdaaDoorXdT
namespace Go.Proofs.YtdhifkdijlghdaaDoorA
open Go
noncomputable section
set_option linter.unusedVariables false
set_option linter.unusedSimpArgs false
set_option maxRecDepth 100000
def gq7.j1 {R : Type} (kkn : ByteArray → Int → Int → Bool → List ByteArray → Option R) (t_ : ByteArray) (from_ : Int) (i : Int) (out : List ByteArray) : Option R :=
 cond (i == (ByteArray.size t_ : Int)) (kkn t_ from_ i true out) (
  grd (gIx i (ByteArray.size t_)) <|
  kkn t_ from_ i ((byteAt t_ i) == (32 : Int)) out)
theorem gq7.j1_nat {R S : Type} (g : R → Option S) (kkn : ByteArray → Int → Int → Bool → List ByteArray → Option R) (t_ from_ i out) : gq7.j1 (fun y0 y1 y2 y3 y4 => (kkn y0 y1 y2 y3 y4).bind g) t_ from_ i out = (gq7.j1 kkn t_ from_ i out).bind g := by
 simp only [gq7.j1, grd_bind, cnd_bind, bnd_bind, non_bind]
def gq7.l2 {R : Type} (kke0 : List ByteArray → Option R) : Nat → ByteArray → Int → Int → List ByteArray → Option R
 | 0, _, _, _, _ => none
 | n + 1, t_, from_, i, out =>
  cond (decide (i ≤ (ByteArray.size t_ : Int))) (
   gq7.j1 (fun t_1 from_1 i1 b out1 =>
    cond (b) (
     cond (decide (i1 > from_1)) (
      grd (gSl from_1 i1 (ByteArray.size t_1)) <|
      grd (gRm (((List.length out1) + (List.length [cut t_1 from_1 i1])) * 16)) <|
      gq7.l2 kke0 n t_1 (IntKind.wrap .i64 (i1 + (1 : Int))) (IntKind.wrap .i64 (i1 + (1 : Int))) (out1 ++ [cut t_1 from_1 i1])) (
      gq7.l2 kke0 n t_1 (IntKind.wrap .i64 (i1 + (1 : Int))) (IntKind.wrap .i64 (i1 + (1 : Int))) out1)) (gq7.l2 kke0 n t_1 from_1 (IntKind.wrap .i64 (i1 + (1 : Int))) out1)) t_ from_ i out) (kke0 out)
theorem gq7.l2_nat {R S : Type} (g : R → Option S) (kke0 : List ByteArray → Option R) : ∀ n t_ from_ i out, gq7.l2 (fun y0 => (kke0 y0).bind g) n t_ from_ i out = (gq7.l2 kke0 n t_ from_ i out).bind g := by
 intro n
 induction n with
 | zero => intros; rfl
 | succ n ih => intros; simp only [gq7.l2, grd_bind, cnd_bind, bnd_bind, non_bind, ← gq7.j1_nat, ih]
def gq7.F {R : Type} (kk : List ByteArray → Option R) (t_ : ByteArray) : Option R :=
 gq7.l2 (fun out => kk out) fuel t_ (0 : Int) (0 : Int) ([] : List ByteArray)
theorem gq7.F_nat {R S : Type} (g : R → Option S) (kk : List ByteArray → Option R) (t_) : gq7.F (fun y0 => (kk y0).bind g) t_ = (gq7.F kk t_).bind g := by
 simp only [gq7.F, grd_bind, cnd_bind, bnd_bind, non_bind, ← gq7.l2_nat]
def gq7 (t_ : ByteArray) : Option (List ByteArray) := gq7.F (fun y0 => some y0) t_
def gq7.out : (List ByteArray) → CRes := fun a => ⟨encL SV.enc [.one (.own [] .str true)] (a, ()), [encL SC.enc [] ()]⟩
def gq7.ps : List PS := [.val [none]]
def gq7.sA : List SA := [.v (.one (.str))]
def gq7.fi : FI := FIs gq7.sA (List ByteArray) (fun t => gq7 t.1) gq7.out gq7.ps
def gq7.E : Env := ⟨tt, lkF [], 36, 0, [], [], []⟩
def gq7.sh1 : SK := ⟨[.v (.one (.str)), .v (.one (.slo 0)), .v (.one (.int .i64)), .v (.one (.int .i64))], [.arr .str [] true]⟩
def gq7.sh1n : SK := ⟨[.v (.one (.str)), .v (.one (.slo 0)), .v (.one (.int .i64)), .v (.one (.int .i64)), .v (.one (.bool))], [.arr .str [] true]⟩
def gq7.ko1 : Ex → List CastAt × List Nat
 | .nrm => ([], [0, 3, 4, 5, 22])
 | .ret => ([], [])
 | .ext i => ([], [])
def gq7.G1 (R : Type) (t : gq7.sh1.T) (K : Ex → Kp → Option R) : Option R := gq7.j1 (fun y0 y1 y2 y3 y4 => K .nrm (SK.enc gq7.sh1n ((y0, (), y1, y2, y3, ()), (y4, ())))) t.1.1 t.1.2.2.1 t.1.2.2.2.1 t.2.1
def gq7.S1 : Sum := ⟨([], [0, 3, 4, 5]), sumF gq7.sh1 (gq7.G1), gq7.ko1⟩
theorem gq7.ok1 (hE : EOk Tryd.prog (gq7.E)) : SumOk Tryd.prog gq7.E (cL (cB (cL (cR (cB (cB (cR (cL (cR (cR (cR (bodyOf Tryd.f7)))))))))))) (gq7.S1) := by
 have hh : HintOk Tryd.prog gq7.E (cL (cB (cL (cR (cB (cB (cR (cL (cR (cR (cR (bodyOf Tryd.f7)))))))))))) (.a) := HintOk.n1 (Q := True) (by kernel_rfl) trivial
 exact sumS (kin := ([], [0, 3, 4, 5])) (kout := gq7.ko1) (sh := gq7.sh1) (F := gq7.G1) (ops_ok (hE.gv _)) (by kernel_rfl) hh (fun R t K => by kernel_rfl)
def gq7.sh2 : SK := ⟨[.v (.one (.str)), .v (.one (.slo 0)), .v (.one (.int .i64)), .v (.one (.int .i64))], [.arr .str [] true]⟩
def gq7.sh2e0 : SK := ⟨[.v (.one (.slo 0))], [.arr .str [] true]⟩
def gq7.ko2 : Ex → List CastAt × List Nat
 | .nrm => ([], [])
 | .ret => ([], [])
 | .ext i => cond (Nat.beq i 0) ([], [3]) ([], [])
def gq7.G2 (n : Nat) (R : Type) (t : gq7.sh2.T) (K : Ex → Kp → Option R) : Option R := gq7.l2 (fun y0 => K (.ext 0) (SK.enc gq7.sh2e0 (((), ()), (y0, ())))) n t.1.1 t.1.2.2.1 t.1.2.2.2.1 t.2.1
def gq7.S2 : Sum := ⟨([], [0, 3, 4, 5]), sumF gq7.sh2 (gq7.G2 fuel), gq7.ko2⟩
theorem gq7.ok2 (hE : EOk Tryd.prog (gq7.E)) : SumOk Tryd.prog gq7.E (cB (cR (cL (cR (cR (cR (bodyOf Tryd.f7))))))) (gq7.S2) := by
 have hh : HintOk Tryd.prog gq7.E (cB (cB (cR (cL (cR (cR (cR (bodyOf Tryd.f7)))))))) (.n (.a) (.n (.b (.n (.s (gq7.S1)) (.a))) (.a))) := HintOk.n1 (Q := (True) ∧ (((SumOk Tryd.prog gq7.E (cL (cB (cL (cR (cB (cB (cR (cL (cR (cR (cR (bodyOf Tryd.f7)))))))))))) (gq7.S1)) ∧ (True)) ∧ (True))) (by kernel_rfl) ⟨trivial, ⟨⟨(gq7.ok1 hE), trivial⟩, trivial⟩⟩
 have h := loopS (kin := ([], [0, 3, 4, 5])) (kout := gq7.ko2) (sh := gq7.sh2) (F := gq7.G2) (ops_ok (hE.gv _)) (by kernel_rfl) hh (fun _ _ _ => rfl) (fun n R t K => by kernel_rfl) fuel
 exact HintOk.n1 (c := (cB (cR (cL (cR (cR (cR (bodyOf Tryd.f7)))))))) (h := .s (gq7.S2)) (P := Tryd.prog) (E := gq7.E) (by kernel_rfl) h
theorem gq7.hok (hE : EOk Tryd.prog (gq7.E)) : HintOk Tryd.prog gq7.E (bodyOf Tryd.f7) (.n (.a) (.n (.a) (.n (.a) (.n (.n (.a) (.b (.s (gq7.S2)))) (.a))))) := HintOk.n1 (Q := (True) ∧ ((True) ∧ ((True) ∧ (((True) ∧ (SumOk Tryd.prog gq7.E (cB (cR (cL (cR (cR (cR (bodyOf Tryd.f7))))))) (gq7.S2))) ∧ (True))))) (by kernel_rfl) ⟨trivial, ⟨trivial, ⟨trivial, ⟨⟨trivial, (gq7.ok2 hE)⟩, trivial⟩⟩⟩⟩
theorem gq7.hE : EOk Tryd.prog (gq7.E) := EOk.of ttOk (trivial)
theorem gq7.fok : FOk Tryd.prog 7 gq7.fi :=
 fokS (E := gq7.E) (wy := ⟨[[some (.str, true)]], [[]], []⟩) (h := (fun gs => .n (.a) (.n (.a) (.n (.a) (.n (.n (.a) (.b (.s (gq7.S2)))) (.a)))))) (G := fun t g => gq7.F (fun y0 => g y0) t.1) (by kernel_rfl) gq7.hE Tryd.func7 (by kernel_rfl) rfl (Nat.le_refl _) (fun t => HintOk.n1 (by kernel_rfl) (gq7.hok gq7.hE)) (fun t g => gq7.F_nat g (fun y0 => some y0) _) (fun t => by kernel_rfl)
def gq8.j1 {R : Type} (kkn : ByteArray → Int → Option R) (t_ : ByteArray) (sign : Int) : Option R :=
 cond (decide ((ByteArray.size t_ : Int) > (0 : Int))) (
  grd (gIx (0 : Int) (ByteArray.size t_)) <|
  cond ((byteAt t_ (0 : Int)) == (45 : Int)) (
   grd (gSl (1 : Int) (ByteArray.size t_ : Int) (ByteArray.size t_)) <|
   kkn (cut t_ (1 : Int) (ByteArray.size t_ : Int)) (-1 : Int)) (kkn t_ sign)) (kkn t_ sign)
theorem gq8.j1_nat {R S : Type} (g : R → Option S) (kkn : ByteArray → Int → Option R) (t_ sign) : gq8.j1 (fun y0 y1 => (kkn y0 y1).bind g) t_ sign = (gq8.j1 kkn t_ sign).bind g := by
 simp only [gq8.j1, grd_bind, cnd_bind, bnd_bind, non_bind]
def gq8.j2 {R : Type} (kkn : ByteArray → Int → Option R) (kkr : Int → Bool → Option R) (t_ : ByteArray) (sign : Int) : Option R :=
 cond ((ByteArray.size t_ : Int) == (0 : Int)) (kkr (0 : Int) false) (
  cond (decide ((ByteArray.size t_ : Int) > (18 : Int))) (kkr (0 : Int) false) (
   grd (gIx (0 : Int) (ByteArray.size t_)) <|
   cond ((byteAt t_ (0 : Int)) == (48 : Int)) (
    cond (decide ((ByteArray.size t_ : Int) > (1 : Int))) (kkr (0 : Int) false) (cond (decide (sign < (0 : Int))) (kkr (0 : Int) false) (kkn t_ sign))) (kkn t_ sign)))
theorem gq8.j2_nat {R S : Type} (g : R → Option S) (kkn : ByteArray → Int → Option R) (kkr : Int → Bool → Option R) (t_ sign) : gq8.j2 (fun y0 y1 => (kkn y0 y1).bind g) (fun y0 y1 => (kkr y0 y1).bind g) t_ sign = (gq8.j2 kkn kkr t_ sign).bind g := by
 simp only [gq8.j2, grd_bind, cnd_bind, bnd_bind, non_bind]
def gq8.l3 {R : Type} (kke0 : Int → Int → Option R) (kkr : Int → Bool → Option R) : Nat → ByteArray → Int → Int → Int → Option R
 | 0, _, _, _, _ => none
 | n + 1, t_, sign, n_, i =>
  cond (decide (i < (ByteArray.size t_ : Int))) (
   grd (gIx i (ByteArray.size t_)) <|
   cond (decide ((byteAt t_ i) < (48 : Int))) (kkr (0 : Int) false) (
    grd (gIx i (ByteArray.size t_)) <|
    cond (decide ((byteAt t_ i) > (57 : Int))) (kkr (0 : Int) false) (
     grd (gIx i (ByteArray.size t_)) <|
     gq8.l3 kke0 kkr n t_ sign (IntKind.wrap .i64 ((IntKind.wrap .i64 ((IntKind.wrap .i64 (n_ * (10 : Int))) + (IntKind.wrap .i64 (byteAt t_ i)))) - (48 : Int))) (IntKind.wrap .i64 (i + (1 : Int)))))) (kke0 sign n_)
theorem gq8.l3_nat {R S : Type} (g : R → Option S) (kke0 : Int → Int → Option R) (kkr : Int → Bool → Option R) : ∀ n t_ sign n_ i, gq8.l3 (fun y0 y1 => (kke0 y0 y1).bind g) (fun y0 y1 => (kkr y0 y1).bind g) n t_ sign n_ i = (gq8.l3 kke0 kkr n t_ sign n_ i).bind g := by
 intro n
 induction n with
 | zero => intros; rfl
 | succ n ih => intros; simp only [gq8.l3, grd_bind, cnd_bind, bnd_bind, non_bind, ih]
def gq8.F {R : Type} (kk : Int → Bool → Option R) (t_ : ByteArray) : Option R :=
 gq8.j1 (fun t_1 sign =>
  gq8.j2 (fun t_2 sign1 =>
   gq8.l3 (fun sign2 n_ => kk (IntKind.wrap .i64 (sign2 * n_)) true) (fun i b => kk i b) fuel t_2 sign1 (0 : Int) (0 : Int)) (fun i1 b1 => kk i1 b1) t_1 sign) t_ (1 : Int)
theorem gq8.F_nat {R S : Type} (g : R → Option S) (kk : Int → Bool → Option R) (t_) : gq8.F (fun y0 y1 => (kk y0 y1).bind g) t_ = (gq8.F kk t_).bind g := by
 simp only [gq8.F, grd_bind, cnd_bind, bnd_bind, non_bind, ← gq8.j1_nat, ← gq8.j2_nat, ← gq8.l3_nat]
def gq8 (t_ : ByteArray) : Option (Int × Bool) := gq8.F (fun y0 y1 => some (y0, y1)) t_
def gq8.out : (Int × Bool) → CRes := fun a => ⟨encL SV.enc [.one (.int .i64), .one (.bool)] (a.1, a.2, ()), [encL SC.enc [] ()]⟩
def gq8.ps : List PS := [.val [none]]
def gq8.sA : List SA := [.v (.one (.str))]
def gq8.fi : FI := FIs gq8.sA (Int × Bool) (fun t => gq8 t.1) gq8.out gq8.ps
def gq8.E : Env := ⟨tt, lkF [], 66, 0, [], [], []⟩
def gq8.sh1 : SK := ⟨[.v (.one (.str)), .v (.one (.int .i64))], []⟩
def gq8.sh1n : SK := ⟨[.v (.one (.str)), .v (.one (.int .i64))], []⟩
def gq8.ko1 : Ex → List CastAt × List Nat
 | .nrm => ([], [0, 4])
 | .ret => ([], [])
 | .ext i => ([], [])
def gq8.G1 (R : Type) (t : gq8.sh1.T) (K : Ex → Kp → Option R) : Option R := gq8.j1 (fun y0 y1 => K .nrm (SK.enc gq8.sh1n ((y0, y1, ()), ()))) t.1.1 t.1.2.1
def gq8.S1 : Sum := ⟨([], [0, 4]), sumF gq8.sh1 (gq8.G1), gq8.ko1⟩
theorem gq8.ok1 (hE : EOk Tryd.prog (gq8.E)) : SumOk Tryd.prog gq8.E (cL (cR (cR (bodyOf Tryd.f8)))) (gq8.S1) := by
 have hh : HintOk Tryd.prog gq8.E (cL (cR (cR (bodyOf Tryd.f8)))) (.a) := HintOk.n1 (Q := True) (by kernel_rfl) trivial
 exact sumS (kin := ([], [0, 4])) (kout := gq8.ko1) (sh := gq8.sh1) (F := gq8.G1) (ops_ok (hE.gv _)) (by kernel_rfl) hh (fun R t K => by kernel_rfl)
def gq8.sh2 : SK := ⟨[.v (.one (.str)), .v (.one (.int .i64))], []⟩
def gq8.sh2n : SK := ⟨[.v (.one (.str)), .v (.one (.int .i64))], []⟩
def gq8.sh2r : SK := ⟨[.v (.one (.int .i64)), .v (.one (.bool))], []⟩
def gq8.ko2 : Ex → List CastAt × List Nat
 | .nrm => ([], [0, 4])
 | .ret => ([], [2, 3])
 | .ext i => ([], [])
def gq8.G2 (R : Type) (t : gq8.sh2.T) (K : Ex → Kp → Option R) : Option R := gq8.j2 (fun y0 y1 => K .nrm (SK.enc gq8.sh2n ((y0, y1, ()), ()))) (fun y0 y1 => K .ret (SK.enc gq8.sh2r ((y0, y1, ()), ()))) t.1.1 t.1.2.1
def gq8.S2 : Sum := ⟨([], [0, 4]), sumF gq8.sh2 (gq8.G2), gq8.ko2⟩
theorem gq8.ok2 (hE : EOk Tryd.prog (gq8.E)) : SumOk Tryd.prog gq8.E (cL (cR (cR (cR (bodyOf Tryd.f8))))) (gq8.S2) := by
 have hh : HintOk Tryd.prog gq8.E (cL (cR (cR (cR (bodyOf Tryd.f8))))) (.a) := HintOk.n1 (Q := True) (by kernel_rfl) trivial
 exact sumS (kin := ([], [0, 4])) (kout := gq8.ko2) (sh := gq8.sh2) (F := gq8.G2) (ops_ok (hE.gv _)) (by kernel_rfl) hh (fun R t K => by kernel_rfl)
def gq8.sh3 : SK := ⟨[.v (.one (.str)), .v (.one (.int .i64)), .v (.one (.int .i64)), .v (.one (.int .i64))], []⟩
def gq8.sh3e0 : SK := ⟨[.v (.one (.int .i64)), .v (.one (.int .i64))], []⟩
def gq8.sh3r : SK := ⟨[.v (.one (.int .i64)), .v (.one (.bool))], []⟩
def gq8.ko3 : Ex → List CastAt × List Nat
 | .nrm => ([], [])
 | .ret => ([], [2, 3])
 | .ext i => cond (Nat.beq i 0) ([], [4, 5]) ([], [])
def gq8.G3 (n : Nat) (R : Type) (t : gq8.sh3.T) (K : Ex → Kp → Option R) : Option R := gq8.l3 (fun y0 y1 => K (.ext 0) (SK.enc gq8.sh3e0 ((y0, y1, ()), ()))) (fun y0 y1 => K .ret (SK.enc gq8.sh3r ((y0, y1, ()), ()))) n t.1.1 t.1.2.1 t.1.2.2.1 t.1.2.2.2.1
def gq8.S3 : Sum := ⟨([], [0, 4, 5, 6]), sumF gq8.sh3 (gq8.G3 fuel), gq8.ko3⟩
theorem gq8.ok3 (hE : EOk Tryd.prog (gq8.E)) : SumOk Tryd.prog gq8.E (cB (cR (cL (cR (cR (cR (cR (cR (bodyOf Tryd.f8))))))))) (gq8.S3) := by
 have hh : HintOk Tryd.prog gq8.E (cB (cB (cR (cL (cR (cR (cR (cR (cR (bodyOf Tryd.f8)))))))))) (.a) := HintOk.n1 (Q := True) (by kernel_rfl) trivial
 have h := loopS (kin := ([], [0, 4, 5, 6])) (kout := gq8.ko3) (sh := gq8.sh3) (F := gq8.G3) (ops_ok (hE.gv _)) (by kernel_rfl) hh (fun _ _ _ => rfl) (fun n R t K => by kernel_rfl) fuel
 exact HintOk.n1 (c := (cB (cR (cL (cR (cR (cR (cR (cR (bodyOf Tryd.f8)))))))))) (h := .s (gq8.S3)) (P := Tryd.prog) (E := gq8.E) (by kernel_rfl) h
theorem gq8.hok (hE : EOk Tryd.prog (gq8.E)) : HintOk Tryd.prog gq8.E (bodyOf Tryd.f8) (.n (.a) (.n (.a) (.n (.s (gq8.S1)) (.n (.s (gq8.S2)) (.n (.a) (.n (.n (.a) (.b (.s (gq8.S3)))) (.a))))))) := HintOk.n1 (Q := (True) ∧ ((True) ∧ ((SumOk Tryd.prog gq8.E (cL (cR (cR (bodyOf Tryd.f8)))) (gq8.S1)) ∧ ((SumOk Tryd.prog gq8.E (cL (cR (cR (cR (bodyOf Tryd.f8))))) (gq8.S2)) ∧ ((True) ∧ (((True) ∧ (SumOk Tryd.prog gq8.E (cB (cR (cL (cR (cR (cR (cR (cR (bodyOf Tryd.f8))))))))) (gq8.S3))) ∧ (True))))))) (by kernel_rfl) ⟨trivial, ⟨trivial, ⟨(gq8.ok1 hE), ⟨(gq8.ok2 hE), ⟨trivial, ⟨⟨trivial, (gq8.ok3 hE)⟩, trivial⟩⟩⟩⟩⟩⟩
theorem gq8.hE : EOk Tryd.prog (gq8.E) := EOk.of ttOk (trivial)
theorem gq8.fok : FOk Tryd.prog 8 gq8.fi :=
 fokS (E := gq8.E) (wy := ⟨[[none], [none]], [[]], []⟩) (h := (fun gs => .n (.a) (.n (.a) (.n (.s (gq8.S1)) (.n (.s (gq8.S2)) (.n (.a) (.n (.n (.a) (.b (.s (gq8.S3)))) (.a)))))))) (G := fun t g => gq8.F (fun y0 y1 => g (y0, y1)) t.1) (by kernel_rfl) gq8.hE Tryd.func8 (by kernel_rfl) rfl (Nat.le_refl _) (fun t => HintOk.n1 (by kernel_rfl) (gq8.hok gq8.hE)) (fun t g => gq8.F_nat g (fun y0 y1 => some (y0, y1)) _) (fun t => by kernel_rfl)
def gq18.j1 {R : Type} (kkn : Int → Bool → Option R) (c : Int) : Option R :=
 cond (decide (c ≥ (48 : Int))) (kkn c (decide (c ≤ (57 : Int)))) (kkn c false)
theorem gq18.j1_nat {R S : Type} (g : R → Option S) (kkn : Int → Bool → Option R) (c) : gq18.j1 (fun y0 y1 => (kkn y0 y1).bind g) c = (gq18.j1 kkn c).bind g := by
 simp only [gq18.j1, grd_bind, cnd_bind, bnd_bind, non_bind]
def gq18.F {R : Type} (kk : Int → Option R) (c : Int) : Option R :=
 gq18.j1 (fun c1 b =>
  cond (b) (kk (IntKind.wrap .i64 ((IntKind.wrap .i64 c1) - (48 : Int)))) (
   cond (decide (c1 ≥ (97 : Int))) (
    cond (decide (c1 ≤ (102 : Int))) (
     kk (IntKind.wrap .i64 ((IntKind.wrap .i64 ((IntKind.wrap .i64 c1) - (97 : Int))) + (10 : Int)))) (kk (-1 : Int))) (kk (-1 : Int)))) c
theorem gq18.F_nat {R S : Type} (g : R → Option S) (kk : Int → Option R) (c) : gq18.F (fun y0 => (kk y0).bind g) c = (gq18.F kk c).bind g := by
 simp only [gq18.F, grd_bind, cnd_bind, bnd_bind, non_bind, ← gq18.j1_nat]
def gq18 (c : Int) : Option Int := gq18.F (fun y0 => some y0) c
def gq18.out : Int → CRes := fun a => ⟨encL SV.enc [.one (.int .i64)] (a, ()), [encL SC.enc [] ()]⟩
def gq18.ps : List PS := [.val [none]]
def gq18.sA : List SA := [.v (.one (.int .u8))]
def gq18.fi : FI := FIs gq18.sA (Int) (fun t => gq18 t.1) gq18.out gq18.ps
def gq18.E : Env := ⟨tt, lkF [], 24, 0, [], [], []⟩
def gq18.sh1 : SK := ⟨[.v (.one (.int .u8))], []⟩
def gq18.sh1n : SK := ⟨[.v (.one (.int .u8)), .v (.one (.bool))], []⟩
def gq18.ko1 : Ex → List CastAt × List Nat
 | .nrm => ([], [0, 3])
 | .ret => ([], [])
 | .ext i => ([], [])
def gq18.G1 (R : Type) (t : gq18.sh1.T) (K : Ex → Kp → Option R) : Option R := gq18.j1 (fun y0 y1 => K .nrm (SK.enc gq18.sh1n ((y0, y1, ()), ()))) t.1.1
def gq18.S1 : Sum := ⟨([], [0]), sumF gq18.sh1 (gq18.G1), gq18.ko1⟩
theorem gq18.ok1 (hE : EOk Tryd.prog (gq18.E)) : SumOk Tryd.prog gq18.E (cL (cB (cL (cR (bodyOf Tryd.f18))))) (gq18.S1) := by
 have hh : HintOk Tryd.prog gq18.E (cL (cB (cL (cR (bodyOf Tryd.f18))))) (.a) := HintOk.n1 (Q := True) (by kernel_rfl) trivial
 exact sumS (kin := ([], [0])) (kout := gq18.ko1) (sh := gq18.sh1) (F := gq18.G1) (ops_ok (hE.gv _)) (by kernel_rfl) hh (fun R t K => by kernel_rfl)
theorem gq18.hok (hE : EOk Tryd.prog (gq18.E)) : HintOk Tryd.prog gq18.E (bodyOf Tryd.f18) (.n (.a) (.n (.b (.n (.s (gq18.S1)) (.a))) (.a))) := HintOk.n1 (Q := (True) ∧ (((SumOk Tryd.prog gq18.E (cL (cB (cL (cR (bodyOf Tryd.f18))))) (gq18.S1)) ∧ (True)) ∧ (True))) (by kernel_rfl) ⟨trivial, ⟨⟨(gq18.ok1 hE), trivial⟩, trivial⟩⟩
theorem gq18.hE : EOk Tryd.prog (gq18.E) := EOk.of ttOk (trivial)
theorem gq18.fok : FOk Tryd.prog 18 gq18.fi :=
 fokS (E := gq18.E) (wy := ⟨[[none]], [[]], []⟩) (h := (fun gs => .n (.a) (.n (.b (.n (.s (gq18.S1)) (.a))) (.a)))) (G := fun t g => gq18.F (fun y0 => g y0) t.1) (by kernel_rfl) gq18.hE Tryd.func18 (by kernel_rfl) rfl (Nat.le_refl _) (fun t => HintOk.n1 (by kernel_rfl) (gq18.hok gq18.hE)) (fun t g => gq18.F_nat g (fun y0 => some y0) _) (fun t => by kernel_rfl)
def gq9.l1 {R : Type} (kke0 : List Int → Option R) (kkr : ByteArray → Int → Option R) : Nat → ByteArray → Int → List Int → Option R
 | 0, _, _, _ => none
 | n + 1, t_, i, out =>
  cond (decide (i < (ByteArray.size t_ : Int))) (
   grd (gIx i (ByteArray.size t_)) <|
   (gq18 (byteAt t_ i)).bind fun r =>
   grd (gIx (IntKind.wrap .i64 (i + (1 : Int))) (ByteArray.size t_)) <|
   (gq18 (byteAt t_ (IntKind.wrap .i64 (i + (1 : Int))))).bind fun r1 =>
   cond (decide (r < (0 : Int))) (kkr ByteArray.empty (3 : Int)) (
    cond (decide (r1 < (0 : Int))) (kkr ByteArray.empty (3 : Int)) (
     grd (gRm (((List.length out) + (List.length [IntKind.wrap .u8 (IntKind.wrap .i64 ((IntKind.wrap .i64 ((16 : Int) * r)) + r1))])) * 1)) <|
     gq9.l1 kke0 kkr n t_ (IntKind.wrap .i64 (i + (2 : Int))) (out ++ [IntKind.wrap .u8 (IntKind.wrap .i64 ((IntKind.wrap .i64 ((16 : Int) * r)) + r1))])))) (kke0 out)
theorem gq9.l1_nat {R S : Type} (g : R → Option S) (kke0 : List Int → Option R) (kkr : ByteArray → Int → Option R) : ∀ n t_ i out, gq9.l1 (fun y0 => (kke0 y0).bind g) (fun y0 y1 => (kkr y0 y1).bind g) n t_ i out = (gq9.l1 kke0 kkr n t_ i out).bind g := by
 intro n
 induction n with
 | zero => intros; rfl
 | succ n ih => intros; simp only [gq9.l1, grd_bind, cnd_bind, bnd_bind, non_bind, ih]
def gq9.F {R : Type} (kk : ByteArray → Int → Option R) (t_ : ByteArray) : Option R :=
 cond (decide ((ByteArray.size t_ : Int) > (65536 : Int))) (kk ByteArray.empty (2 : Int)) (
  cond ((ByteArray.size t_ : Int) != (64 : Int)) (kk ByteArray.empty (3 : Int)) (
   gq9.l1 (fun out => kk (strL out) (0 : Int)) (fun s i => kk s i) fuel t_ (0 : Int) ([] : List Int)))
theorem gq9.F_nat {R S : Type} (g : R → Option S) (kk : ByteArray → Int → Option R) (t_) : gq9.F (fun y0 y1 => (kk y0 y1).bind g) t_ = (gq9.F kk t_).bind g := by
 simp only [gq9.F, grd_bind, cnd_bind, bnd_bind, non_bind, ← gq9.l1_nat]
def gq9 (t_ : ByteArray) : Option (ByteArray × Int) := gq9.F (fun y0 y1 => some (y0, y1)) t_
def gq9.out : (ByteArray × Int) → CRes := fun a => ⟨encL SV.enc [.one (.str), .one (.int .i64)] (a.1, a.2, ()), [encL SC.enc [] ()]⟩
def gq9.ps : List PS := [.val [none]]
def gq9.sA : List SA := [.v (.one (.str))]
def gq9.fi : FI := FIs gq9.sA (ByteArray × Int) (fun t => gq9 t.1) gq9.out gq9.ps
def gq9.E : Env := ⟨tt, lkF [(18, gq18.fi)], 46, 0, [], [], []⟩
def gq9.sh1 : SK := ⟨[.v (.one (.str)), .v (.one (.slo 0)), .v (.one (.int .i64))], [.arr (.int .u8) [] true]⟩
def gq9.sh1e0 : SK := ⟨[.v (.one (.slo 0))], [.arr (.int .u8) [] true]⟩
def gq9.sh1r : SK := ⟨[.v (.one (.str)), .v (.one (.int .i64))], []⟩
def gq9.ko1 : Ex → List CastAt × List Nat
 | .nrm => ([], [])
 | .ret => ([], [2, 3])
 | .ext i => cond (Nat.beq i 0) ([], [4]) ([], [])
def gq9.G1 (n : Nat) (R : Type) (t : gq9.sh1.T) (K : Ex → Kp → Option R) : Option R := gq9.l1 (fun y0 => K (.ext 0) (SK.enc gq9.sh1e0 (((), ()), (y0, ())))) (fun y0 y1 => K .ret (SK.enc gq9.sh1r ((y0, y1, ()), ()))) n t.1.1 t.1.2.2.1 t.2.1
def gq9.S1 : Sum := ⟨([], [0, 4, 5]), sumF gq9.sh1 (gq9.G1 fuel), gq9.ko1⟩
theorem gq9.ok1 (hE : EOk Tryd.prog (gq9.E)) : SumOk Tryd.prog gq9.E (cB (cR (cL (cR (cR (cR (cR (bodyOf Tryd.f9)))))))) (gq9.S1) := by
 have hh : HintOk Tryd.prog gq9.E (cB (cB (cR (cL (cR (cR (cR (cR (bodyOf Tryd.f9))))))))) (.a) := HintOk.n1 (Q := True) (by kernel_rfl) trivial
 have h := loopS (kin := ([], [0, 4, 5])) (kout := gq9.ko1) (sh := gq9.sh1) (F := gq9.G1) (ops_ok (hE.gv _)) (by kernel_rfl) hh (fun _ _ _ => rfl) (fun n R t K => by kernel_rfl) fuel
 exact HintOk.n1 (c := (cB (cR (cL (cR (cR (cR (cR (bodyOf Tryd.f9))))))))) (h := .s (gq9.S1)) (P := Tryd.prog) (E := gq9.E) (by kernel_rfl) h
theorem gq9.hok (hE : EOk Tryd.prog (gq9.E)) : HintOk Tryd.prog gq9.E (bodyOf Tryd.f9) (.n (.a) (.n (.a) (.n (.a) (.n (.a) (.n (.n (.a) (.b (.s (gq9.S1)))) (.a)))))) := HintOk.n1 (Q := (True) ∧ ((True) ∧ ((True) ∧ ((True) ∧ (((True) ∧ (SumOk Tryd.prog gq9.E (cB (cR (cL (cR (cR (cR (cR (bodyOf Tryd.f9)))))))) (gq9.S1))) ∧ (True)))))) (by kernel_rfl) ⟨trivial, ⟨trivial, ⟨trivial, ⟨trivial, ⟨⟨trivial, (gq9.ok1 hE)⟩, trivial⟩⟩⟩⟩⟩
theorem gq9.hE : EOk Tryd.prog (gq9.E) := EOk.of ttOk (⟨gq18.fok, trivial⟩)
theorem gq9.fok : FOk Tryd.prog 9 gq9.fi :=
 fokS (E := gq9.E) (wy := ⟨[[none], [none]], [[]], []⟩) (h := (fun gs => .n (.a) (.n (.a) (.n (.a) (.n (.a) (.n (.n (.a) (.b (.s (gq9.S1)))) (.a))))))) (G := fun t g => gq9.F (fun y0 y1 => g (y0, y1)) t.1) (by kernel_rfl) gq9.hE Tryd.func9 (by kernel_rfl) rfl (Nat.le_refl _) (fun t => HintOk.n1 (by kernel_rfl) (gq9.hok gq9.hE)) (fun t g => gq9.F_nat g (fun y0 y1 => some (y0, y1)) _) (fun t => by kernel_rfl)
def gq19.F {R : Type} (kk : Bool → Option R) (n_ : Int) (low : Int) (high : Int) : Option R :=
 cond (decide (n_ ≥ low)) (kk (decide (n_ ≤ high))) (kk false)
theorem gq19.F_nat {R S : Type} (g : R → Option S) (kk : Bool → Option R) (n_ low high) : gq19.F (fun y0 => (kk y0).bind g) n_ low high = (gq19.F kk n_ low high).bind g := by
 simp only [gq19.F, grd_bind, cnd_bind, bnd_bind, non_bind]
def gq19 (n_ : Int) (low : Int) (high : Int) : Option Bool := gq19.F (fun y0 => some y0) n_ low high
def gq19.out : Bool → CRes := fun a => ⟨encL SV.enc [.one (.bool)] (a, ()), [encL SC.enc [] (), encL SC.enc [] (), encL SC.enc [] ()]⟩
def gq19.ps : List PS := [.val [none], .val [none], .val [none]]
def gq19.sA : List SA := [.v (.one (.int .i64)), .v (.one (.int .i64)), .v (.one (.int .i64))]
def gq19.fi : FI := FIs gq19.sA (Bool) (fun t => gq19 t.1 t.2.1 t.2.2.1) gq19.out gq19.ps
def gq19.E : Env := ⟨tt, lkF [], 15, 0, [], [], []⟩
theorem gq19.hok (hE : EOk Tryd.prog (gq19.E)) : HintOk Tryd.prog gq19.E (bodyOf Tryd.f19) (.a) := HintOk.n1 (Q := True) (by kernel_rfl) trivial
theorem gq19.hE : EOk Tryd.prog (gq19.E) := EOk.of ttOk (trivial)
theorem gq19.fok : FOk Tryd.prog 19 gq19.fi :=
 fokS (E := gq19.E) (wy := ⟨[[none]], [[], [], []], []⟩) (h := (fun gs => .a)) (G := fun t g => gq19.F (fun y0 => g y0) t.1 t.2.1 t.2.2.1) (by kernel_rfl) gq19.hE Tryd.func19 (by kernel_rfl) rfl (Nat.le_refl _) (fun t => HintOk.n1 (by kernel_rfl) (gq19.hok gq19.hE)) (fun t g => gq19.F_nat g (fun y0 => some y0) _ _ _) (fun t => by kernel_rfl)
def gq10.F {R : Type} (kk : Bool → Option R) (s_Size : Int) (s_Log : ByteArray) (s_Map : ByteArray) : Option R :=
 (gq19 s_Size (0 : Int) (50 : Int)).bind fun r =>
 cond (r) (
  cond ((ByteArray.size s_Log : Int) == (32 : Int)) (kk ((ByteArray.size s_Map : Int) == (32 : Int))) (kk false)) (kk false)
theorem gq10.F_nat {R S : Type} (g : R → Option S) (kk : Bool → Option R) (s_Size s_Log s_Map) : gq10.F (fun y0 => (kk y0).bind g) s_Size s_Log s_Map = (gq10.F kk s_Size s_Log s_Map).bind g := by
 simp only [gq10.F, grd_bind, cnd_bind, bnd_bind, non_bind]
def gq10 (s_Size : Int) (s_Log : ByteArray) (s_Map : ByteArray) : Option Bool := gq10.F (fun y0 => some y0) s_Size s_Log s_Map
def gq10.out : Bool → CRes := fun a => ⟨encL SV.enc [.one (.bool)] (a, ()), [encL SC.enc [] ()]⟩
def gq10.ps : List PS := [.val [none, none, none]]
def gq10.sA : List SA := [.v (.agg [.int .i64, .str, .str])]
def gq10.fi : FI := FIs gq10.sA (Bool) (fun t => gq10 t.1.1 t.1.2.1 t.1.2.2.1) gq10.out gq10.ps
def gq10.E : Env := ⟨tt, lkF [(19, gq19.fi)], 18, 0, [], [], []⟩
theorem gq10.hok (hE : EOk Tryd.prog (gq10.E)) : HintOk Tryd.prog gq10.E (bodyOf Tryd.f10) (.a) := HintOk.n1 (Q := True) (by kernel_rfl) trivial
theorem gq10.hE : EOk Tryd.prog (gq10.E) := EOk.of ttOk (⟨gq19.fok, trivial⟩)
theorem gq10.fok : FOk Tryd.prog 10 gq10.fi :=
 fokS (E := gq10.E) (wy := ⟨[[none]], [[]], []⟩) (h := (fun gs => .a)) (G := fun t g => gq10.F (fun y0 => g y0) t.1.1 t.1.2.1 t.1.2.2.1) (by kernel_rfl) gq10.hE Tryd.func10 (by kernel_rfl) rfl (Nat.le_refl _) (fun t => HintOk.n1 (by kernel_rfl) (gq10.hok gq10.hE)) (fun t g => gq10.F_nat g (fun y0 => some y0) _ _ _) (fun t => by kernel_rfl)
def gq20.F {R : Type} (rc : Int → Option ByteArray) (kk : ByteArray → Option R) (n_ : Int) : Option R :=
 cond (n_ == (-9223372036854775808 : Int)) (
  kk (⟨#[45, 57, 50, 50, 51, 51, 55, 50, 48, 51, 54, 56, 53, 52, 55, 55, 53, 56, 48, 56]⟩ : ByteArray)) (
  cond (decide (n_ < (0 : Int))) (
   (rc (IntKind.wrap .i64 (0 - n_))).bind fun r =>
   grd (gCat (⟨#[45]⟩ : ByteArray) r) <|
   kk ((⟨#[45]⟩ : ByteArray) ++ r)) (
   cond (decide (n_ < (10 : Int))) (kk (strL [IntKind.wrap .u8 (IntKind.wrap .i64 ((48 : Int) + n_))])) (
    grd (gNz (10 : Int)) <|
    (rc (IntKind.wrap .i64 (Int.tdiv n_ (10 : Int)))).bind fun r1 =>
    grd (gNz (10 : Int)) <|
    grd (gCat r1 (strL [IntKind.wrap .u8 (IntKind.wrap .i64 ((48 : Int) + (Int.tmod n_ (10 : Int))))])) <|
    kk (r1 ++ (strL [IntKind.wrap .u8 (IntKind.wrap .i64 ((48 : Int) + (Int.tmod n_ (10 : Int))))])))))
theorem gq20.F_nat {R S : Type} (g : R → Option S) (rc : Int → Option ByteArray) (kk : ByteArray → Option R) (n_) : gq20.F rc (fun y0 => (kk y0).bind g) n_ = (gq20.F rc kk n_).bind g := by
 simp only [gq20.F, grd_bind, cnd_bind, bnd_bind, non_bind]
def gq20 : Nat → Int → Option ByteArray
 | 0, _ => none
 | fu + 1, n_ => gq20.F (gq20 fu) (fun y0 => some y0) n_
theorem gq20_nat {S : Type} (fu : Nat) (g : ByteArray → Option S) (n_ : Int) : gq20.F (gq20 fu) (fun y0 => g y0) n_ = (gq20 (fu + 1) n_).bind g := gq20.F_nat g (gq20 fu) (fun y0 => some y0) n_
def gq20.out : ByteArray → CRes := fun a => ⟨encL SV.enc [.one (.str)] (a, ()), [encL SC.enc [] ()]⟩
def gq20.ps : List PS := [.val [none]]
def gq20.sA : List SA := [.v (.one (.int .i64))]
def gq20.fi (fu : Nat) : FI := FIs gq20.sA (ByteArray) (fun t => gq20 fu t.1) gq20.out gq20.ps
def gq20.E (fu : Nat) : Env := ⟨tt, lkF [(20, gq20.fi fu)], 28, 0, [], [], []⟩
theorem gq20.hok (fu : Nat) (hE : EOk Tryd.prog (gq20.E fu)) : HintOk Tryd.prog (gq20.E fu) (bodyOf Tryd.f20) (.a) := HintOk.n1 (Q := True) (by kernel_rfl) trivial
theorem gq20.fok0 : FOk Tryd.prog 20 (gq20.fi 0) := FOk.zero ⟨_, _, Tryd.func20, by kernel_rfl, rfl⟩ (fun _ => rfl)
theorem gq20.fok1 (fu : Nat) (ih : FOk Tryd.prog 20 (gq20.fi fu)) : FOk Tryd.prog 20 (gq20.fi (fu + 1)) := by
 have hE : EOk Tryd.prog (gq20.E fu) := EOk.of ttOk (⟨ih, trivial⟩)
 exact fokS (E := gq20.E fu) (wy := ⟨[[none]], [[]], []⟩) (h := (fun gs => .a)) (G := fun t g => gq20.F (gq20 fu) (fun y0 => g y0) t.1) (by kernel_rfl) hE Tryd.func20 (by kernel_rfl) rfl (Nat.le_refl _) (fun t => HintOk.n1 (by kernel_rfl) (gq20.hok fu hE)) (fun t g => gq20_nat fu g t.1) (fun t => by kernel_rfl)
theorem gq20.fok (fu : Nat) : FOk Tryd.prog 20 (gq20.fi fu) := Nat.rec gq20.fok0 gq20.fok1 fu
def gq21.l1 {R : Type} (kke0 : List Int → Option R) : Nat → ByteArray → Int → List Int → Option R
 | 0, _, _, _ => none
 | n + 1, t_, i, out =>
  cond (decide (i < (ByteArray.size t_ : Int))) (
   grd (gIx i (ByteArray.size t_)) <|
   grd (gNz (16 : Int)) <|
   grd (gIx (IntKind.wrap .u8 (Int.tdiv (byteAt t_ i) (16 : Int))) (ByteArray.size (⟨#[48, 49, 50, 51, 52, 53, 54, 55, 56, 57, 97, 98, 99, 100, 101, 102]⟩ : ByteArray))) <|
   grd (gIx i (ByteArray.size t_)) <|
   grd (gNz (16 : Int)) <|
   grd (gIx (Int.tmod (byteAt t_ i) (16 : Int)) (ByteArray.size (⟨#[48, 49, 50, 51, 52, 53, 54, 55, 56, 57, 97, 98, 99, 100, 101, 102]⟩ : ByteArray))) <|
   grd (gRm (((List.length out) + (List.length ([byteAt (⟨#[48, 49, 50, 51, 52, 53, 54, 55, 56, 57, 97, 98, 99, 100, 101, 102]⟩ : ByteArray) (IntKind.wrap .u8 (Int.tdiv (byteAt t_ i) (16 : Int))), byteAt (⟨#[48, 49, 50, 51, 52, 53, 54, 55, 56, 57, 97, 98, 99, 100, 101, 102]⟩ : ByteArray) (Int.tmod (byteAt t_ i) (16 : Int))]))) * 1)) <|
   gq21.l1 kke0 n t_ (IntKind.wrap .i64 (i + (1 : Int))) (out ++ ([byteAt (⟨#[48, 49, 50, 51, 52, 53, 54, 55, 56, 57, 97, 98, 99, 100, 101, 102]⟩ : ByteArray) (IntKind.wrap .u8 (Int.tdiv (byteAt t_ i) (16 : Int))), byteAt (⟨#[48, 49, 50, 51, 52, 53, 54, 55, 56, 57, 97, 98, 99, 100, 101, 102]⟩ : ByteArray) (Int.tmod (byteAt t_ i) (16 : Int))]))) (kke0 out)
theorem gq21.l1_nat {R S : Type} (g : R → Option S) (kke0 : List Int → Option R) : ∀ n t_ i out, gq21.l1 (fun y0 => (kke0 y0).bind g) n t_ i out = (gq21.l1 kke0 n t_ i out).bind g := by
 intro n
 induction n with
 | zero => intros; rfl
 | succ n ih => intros; simp only [gq21.l1, grd_bind, cnd_bind, bnd_bind, non_bind, ih]
def gq21.F {R : Type} (kk : ByteArray → Option R) (t_ : ByteArray) : Option R :=
 gq21.l1 (fun out => kk (strL out)) fuel t_ (0 : Int) ([] : List Int)
theorem gq21.F_nat {R S : Type} (g : R → Option S) (kk : ByteArray → Option R) (t_) : gq21.F (fun y0 => (kk y0).bind g) t_ = (gq21.F kk t_).bind g := by
 simp only [gq21.F, grd_bind, cnd_bind, bnd_bind, non_bind, ← gq21.l1_nat]
def gq21 (t_ : ByteArray) : Option ByteArray := gq21.F (fun y0 => some y0) t_
def gq21.out : ByteArray → CRes := fun a => ⟨encL SV.enc [.one (.str)] (a, ()), [encL SC.enc [] ()]⟩
def gq21.ps : List PS := [.val [none]]
def gq21.sA : List SA := [.v (.one (.str))]
def gq21.fi : FI := FIs gq21.sA (ByteArray) (fun t => gq21 t.1) gq21.out gq21.ps
def gq21.E : Env := ⟨tt, lkF [], 27, 0, [], [], []⟩
def gq21.sh1 : SK := ⟨[.v (.one (.str)), .v (.one (.slo 0)), .v (.one (.int .i64))], [.arr (.int .u8) [] true]⟩
def gq21.sh1e0 : SK := ⟨[.v (.one (.slo 0))], [.arr (.int .u8) [] true]⟩
def gq21.ko1 : Ex → List CastAt × List Nat
 | .nrm => ([], [])
 | .ret => ([], [])
 | .ext i => cond (Nat.beq i 0) ([], [3]) ([], [])
def gq21.G1 (n : Nat) (R : Type) (t : gq21.sh1.T) (K : Ex → Kp → Option R) : Option R := gq21.l1 (fun y0 => K (.ext 0) (SK.enc gq21.sh1e0 (((), ()), (y0, ())))) n t.1.1 t.1.2.2.1 t.2.1
def gq21.S1 : Sum := ⟨([], [0, 3, 4]), sumF gq21.sh1 (gq21.G1 fuel), gq21.ko1⟩
theorem gq21.ok1 (hE : EOk Tryd.prog (gq21.E)) : SumOk Tryd.prog gq21.E (cB (cR (cL (cR (cR (bodyOf Tryd.f21)))))) (gq21.S1) := by
 have hh : HintOk Tryd.prog gq21.E (cB (cB (cR (cL (cR (cR (bodyOf Tryd.f21))))))) (.a) := HintOk.n1 (Q := True) (by kernel_rfl) trivial
 have h := loopS (kin := ([], [0, 3, 4])) (kout := gq21.ko1) (sh := gq21.sh1) (F := gq21.G1) (ops_ok (hE.gv _)) (by kernel_rfl) hh (fun _ _ _ => rfl) (fun n R t K => by kernel_rfl) fuel
 exact HintOk.n1 (c := (cB (cR (cL (cR (cR (bodyOf Tryd.f21))))))) (h := .s (gq21.S1)) (P := Tryd.prog) (E := gq21.E) (by kernel_rfl) h
theorem gq21.hok (hE : EOk Tryd.prog (gq21.E)) : HintOk Tryd.prog gq21.E (bodyOf Tryd.f21) (.n (.a) (.n (.a) (.n (.n (.a) (.b (.s (gq21.S1)))) (.a)))) := HintOk.n1 (Q := (True) ∧ ((True) ∧ (((True) ∧ (SumOk Tryd.prog gq21.E (cB (cR (cL (cR (cR (bodyOf Tryd.f21)))))) (gq21.S1))) ∧ (True)))) (by kernel_rfl) ⟨trivial, ⟨trivial, ⟨⟨trivial, (gq21.ok1 hE)⟩, trivial⟩⟩⟩
theorem gq21.hE : EOk Tryd.prog (gq21.E) := EOk.of ttOk (trivial)
theorem gq21.fok : FOk Tryd.prog 21 gq21.fi :=
 fokS (E := gq21.E) (wy := ⟨[[none]], [[]], []⟩) (h := (fun gs => .n (.a) (.n (.a) (.n (.n (.a) (.b (.s (gq21.S1)))) (.a))))) (G := fun t g => gq21.F (fun y0 => g y0) t.1) (by kernel_rfl) gq21.hE Tryd.func21 (by kernel_rfl) rfl (Nat.le_refl _) (fun t => HintOk.n1 (by kernel_rfl) (gq21.hok gq21.hE)) (fun t g => gq21.F_nat g (fun y0 => some y0) _) (fun t => by kernel_rfl)
def gq11.F {R : Type} (kk : ByteArray → Option R) (s_Size : Int) (s_Log : ByteArray) (s_Map : ByteArray) : Option R :=
 (gq20 fuel s_Size).bind fun r =>
 grd (gCat (⟨#[115, 105, 122, 101, 32]⟩ : ByteArray) r) <|
 grd (gCat ((⟨#[115, 105, 122, 101, 32]⟩ : ByteArray) ++ r) (⟨#[32, 108, 111, 103, 32]⟩ : ByteArray)) <|
 (gq21 s_Log).bind fun r1 =>
 grd (gCat (((⟨#[115, 105, 122, 101, 32]⟩ : ByteArray) ++ r) ++ (⟨#[32, 108, 111, 103, 32]⟩ : ByteArray)) r1) <|
 grd (gCat ((((⟨#[115, 105, 122, 101, 32]⟩ : ByteArray) ++ r) ++ (⟨#[32, 108, 111, 103, 32]⟩ : ByteArray)) ++ r1) (⟨#[32, 109, 97, 112, 32]⟩ : ByteArray)) <|
 (gq21 s_Map).bind fun r2 =>
 grd (gCat (((((⟨#[115, 105, 122, 101, 32]⟩ : ByteArray) ++ r) ++ (⟨#[32, 108, 111, 103, 32]⟩ : ByteArray)) ++ r1) ++ (⟨#[32, 109, 97, 112, 32]⟩ : ByteArray)) r2) <|
 kk ((((((⟨#[115, 105, 122, 101, 32]⟩ : ByteArray) ++ r) ++ (⟨#[32, 108, 111, 103, 32]⟩ : ByteArray)) ++ r1) ++ (⟨#[32, 109, 97, 112, 32]⟩ : ByteArray)) ++ r2)
theorem gq11.F_nat {R S : Type} (g : R → Option S) (kk : ByteArray → Option R) (s_Size s_Log s_Map) : gq11.F (fun y0 => (kk y0).bind g) s_Size s_Log s_Map = (gq11.F kk s_Size s_Log s_Map).bind g := by
 simp only [gq11.F, grd_bind, cnd_bind, bnd_bind, non_bind]
def gq11 (s_Size : Int) (s_Log : ByteArray) (s_Map : ByteArray) : Option ByteArray := gq11.F (fun y0 => some y0) s_Size s_Log s_Map
def gq11.out : ByteArray → CRes := fun a => ⟨encL SV.enc [.one (.str)] (a, ()), [encL SC.enc [] ()]⟩
def gq11.ps : List PS := [.val [none, none, none]]
def gq11.sA : List SA := [.v (.agg [.int .i64, .str, .str])]
def gq11.fi : FI := FIs gq11.sA (ByteArray) (fun t => gq11 t.1.1 t.1.2.1 t.1.2.2.1) gq11.out gq11.ps
def gq11.E : Env := ⟨tt, lkF [(20, gq20.fi fuel), (21, gq21.fi)], 17, 0, [], [], []⟩
theorem gq11.hok (hE : EOk Tryd.prog (gq11.E)) : HintOk Tryd.prog gq11.E (bodyOf Tryd.f11) (.a) := HintOk.n1 (Q := True) (by kernel_rfl) trivial
theorem gq11.hE : EOk Tryd.prog (gq11.E) := EOk.of ttOk (⟨gq20.fok fuel, ⟨gq21.fok, trivial⟩⟩)
theorem gq11.fok : FOk Tryd.prog 11 gq11.fi :=
 fokS (E := gq11.E) (wy := ⟨[[none]], [[]], []⟩) (h := (fun gs => .a)) (G := fun t g => gq11.F (fun y0 => g y0) t.1.1 t.1.2.1 t.1.2.2.1) (by kernel_rfl) gq11.hE Tryd.func11 (by kernel_rfl) rfl (Nat.le_refl _) (fun t => HintOk.n1 (by kernel_rfl) (gq11.hok gq11.hE)) (fun t g => gq11.F_nat g (fun y0 => some y0) _ _ _) (fun t => by kernel_rfl)
def gq4.F {R : Type} (kk : Int → ByteArray → ByteArray → Int → Option R) (t_ : ByteArray) : Option R :=
 cond (decide ((ByteArray.size t_ : Int) > (65536 : Int))) (kk (0 : Int) ByteArray.empty ByteArray.empty (2 : Int)) (
  (gq7 t_).bind fun r =>
  cond ((List.length r : Int) != (6 : Int)) (kk (0 : Int) ByteArray.empty ByteArray.empty (3 : Int)) (
   cond (decide ((ByteArray.size t_ : Int) > (200 : Int))) (kk (0 : Int) ByteArray.empty ByteArray.empty (3 : Int)) (
    grd (gIx (1 : Int) (List.length r)) <|
    (gq8 (rdE (.str : Kd) r (Int.toNat (1 : Int)))).bind fun r1 =>
    grd (gIx (3 : Int) (List.length r)) <|
    (gq9 (rdE (.str : Kd) r (Int.toNat (3 : Int)))).bind fun r2 =>
    grd (gIx (5 : Int) (List.length r)) <|
    (gq9 (rdE (.str : Kd) r (Int.toNat (5 : Int)))).bind fun r3 =>
    cond (!r1.2) (kk (0 : Int) ByteArray.empty ByteArray.empty (3 : Int)) (
     cond (r2.2 != (0 : Int)) (kk (0 : Int) ByteArray.empty ByteArray.empty (3 : Int)) (
      cond (r3.2 != (0 : Int)) (kk (0 : Int) ByteArray.empty ByteArray.empty (3 : Int)) (
       (gq10 r1.1 r2.1 r3.1).bind fun r4 =>
       cond (!r4) (kk (0 : Int) ByteArray.empty ByteArray.empty (3 : Int)) (
        (gq11 r1.1 r2.1 r3.1).bind fun r5 =>
        cond (!(sEq r5 t_)) (kk (0 : Int) ByteArray.empty ByteArray.empty (3 : Int)) (kk r1.1 r2.1 r3.1 (0 : Int)))))))))
theorem gq4.F_nat {R S : Type} (g : R → Option S) (kk : Int → ByteArray → ByteArray → Int → Option R) (t_) : gq4.F (fun y0 y1 y2 y3 => (kk y0 y1 y2 y3).bind g) t_ = (gq4.F kk t_).bind g := by
 simp only [gq4.F, grd_bind, cnd_bind, bnd_bind, non_bind]
def gq4 (t_ : ByteArray) : Option (Int × ByteArray × ByteArray × Int) := gq4.F (fun y0 y1 y2 y3 => some (y0, y1, y2, y3)) t_
def gq4.out : (Int × ByteArray × ByteArray × Int) → CRes := fun a => ⟨encL SV.enc [.agg [.int .i64, .str, .str], .one (.int .i64)] ((a.1, a.2.1, a.2.2.1, ()), a.2.2.2, ()), [encL SC.enc [] ()]⟩
def gq4.ps : List PS := [.val [none]]
def gq4.sA : List SA := [.v (.one (.str))]
def gq4.fi : FI := FIs gq4.sA (Int × ByteArray × ByteArray × Int) (fun t => gq4 t.1) gq4.out gq4.ps
def gq4.E : Env := ⟨tt, lkF [(7, gq7.fi), (8, gq8.fi), (9, gq9.fi), (10, gq10.fi), (11, gq11.fi)], 75, 0, [], [], []⟩
theorem gq4.hok (hE : EOk Tryd.prog (gq4.E)) : HintOk Tryd.prog gq4.E (bodyOf Tryd.f4) (.a) := HintOk.n1 (Q := True) (by kernel_rfl) trivial
theorem gq4.hE : EOk Tryd.prog (gq4.E) := EOk.of ttOk (⟨gq7.fok, ⟨gq8.fok, ⟨gq9.fok, ⟨gq10.fok, ⟨gq11.fok, trivial⟩⟩⟩⟩⟩)
theorem gq4.fok : FOk Tryd.prog 4 gq4.fi :=
 fokS (E := gq4.E) (wy := ⟨[[none, none, none], [none]], [[]], []⟩) (h := (fun gs => .a)) (G := fun t g => gq4.F (fun y0 y1 y2 y3 => g (y0, y1, y2, y3)) t.1) (by kernel_rfl) gq4.hE Tryd.func4 (by kernel_rfl) rfl (Nat.le_refl _) (fun t => HintOk.n1 (by kernel_rfl) (gq4.hok gq4.hE)) (fun t g => gq4.F_nat g (fun y0 y1 y2 y3 => some (y0, y1, y2, y3)) _) (fun t => by kernel_rfl)
def gq33.l1 {R : Type} (f : ((ByteArray × Unit) → Option (Bool × Unit))) (kke0 : Option R) (kkr : Int → Option R) : Nat → List ByteArray → Int → Int → Option R
 | 0, _, _, _ => none
 | n + 1, s, i, i1 =>
  cond (decide (i1 < i)) (
   grd (gIx i1 (List.length s)) <|
   (f (rdE (.str : Kd) s (Int.toNat i1), ())).bind fun r =>
   cond (r.1) (kkr i1) (gq33.l1 f kke0 kkr n s i (IntKind.wrap .i64 (i1 + (1 : Int))))) (kke0)
theorem gq33.l1_nat {R S : Type} (g : R → Option S) (f : ((ByteArray × Unit) → Option (Bool × Unit))) (kke0 : Option R) (kkr : Int → Option R) : ∀ n s i i1, gq33.l1 f (kke0.bind g) (fun y0 => (kkr y0).bind g) n s i i1 = (gq33.l1 f kke0 kkr n s i i1).bind g := by
 intro n
 induction n with
 | zero => intros; rfl
 | succ n ih => intros; simp only [gq33.l1, grd_bind, cnd_bind, bnd_bind, non_bind, ih]
def gq33.F {R : Type} (kk : Int → Option R) (s : List ByteArray) (f : ((ByteArray × Unit) → Option (Bool × Unit))) : Option R :=
 gq33.l1 f (kk (-1 : Int)) (fun i => kk i) fuel s (List.length s : Int) (0 : Int)
theorem gq33.F_nat {R S : Type} (g : R → Option S) (kk : Int → Option R) (s f) : gq33.F (fun y0 => (kk y0).bind g) s f = (gq33.F kk s f).bind g := by
 simp only [gq33.F, grd_bind, cnd_bind, bnd_bind, non_bind, ← gq33.l1_nat]
def gq33 (s : List ByteArray) (f : ((ByteArray × Unit) → Option (Bool × Unit))) : Option Int := gq33.F (fun y0 => some y0) s f
def gq33.out : Int → CRes := fun a => ⟨encL SV.enc [.one (.int .i64)] (a, ()), [encL SC.enc [] (), encL SC.enc [] ()]⟩
def gq33.ps : List PS := [.val [some (.str, false)], .fn [.one (.bool)]]
def gq33.sA : List SA := [.v (.one (.slv [] .str)), .fn [.one (.str)] [.one (.bool)]]
def gq33.fi : FI := FIs gq33.sA (Int) (fun t => gq33 t.1 t.2.1) gq33.out gq33.ps
def gq33.E : Env := ⟨tt, lkF [], 19, 0, [], [], []⟩
def gq33.sh1 : SK := ⟨[.v (.one (.slv [1] .str)), .v (.one (.fv 0)), .v (.one (.int .i64)), .v (.one (.int .i64))], []⟩
def gq33.sh1e0 : SK := ⟨[], []⟩
def gq33.sh1r : SK := ⟨[.v (.one (.int .i64))], []⟩
def gq33.ko1 : Ex → List CastAt × List Nat
 | .nrm => ([], [])
 | .ret => ([], [4])
 | .ext i => cond (Nat.beq i 0) ([], []) ([], [])
def gq33.G1 (f : ((ByteArray × Unit) → Option (Bool × Unit))) (n : Nat) (R : Type) (t : gq33.sh1.T) (K : Ex → Kp → Option R) : Option R := gq33.l1 f (K (.ext 0) (SK.enc gq33.sh1e0 ((), ()))) (fun y0 => K .ret (SK.enc gq33.sh1r ((y0, ()), ()))) n t.1.1 t.1.2.2.1 t.1.2.2.2.1
def gq33.S1 (f : ((ByteArray × Unit) → Option (Bool × Unit))) : Sum := ⟨([], [0, 1, 7, 8]), sumF gq33.sh1 (gq33.G1 f fuel), gq33.ko1⟩
theorem gq33.ok1 (f : ((ByteArray × Unit) → Option (Bool × Unit))) (hE : EOk Tryd.prog (gq33.E)) : SumOk Tryd.prog { (gq33.E) with gv := [fnE [.one (.str)] [.one (.bool)] f] } (cB (cR (cL (cR (bodyOf Tryd.f33))))) (gq33.S1 f) := by
 have hh : HintOk Tryd.prog { (gq33.E) with gv := [fnE [.one (.str)] [.one (.bool)] f] } (cB (cB (cR (cL (cR (bodyOf Tryd.f33)))))) (.a) := HintOk.n1 (Q := True) (by kernel_rfl) trivial
 have h := loopS (kin := ([], [0, 1, 7, 8])) (kout := gq33.ko1) (sh := gq33.sh1) (F := gq33.G1 f) (ops_ok (hE.gv _)) (by kernel_rfl) hh (fun _ _ _ => rfl) (fun n R t K => by kernel_rfl) fuel
 exact HintOk.n1 (c := (cB (cR (cL (cR (bodyOf Tryd.f33)))))) (h := .s (gq33.S1 f)) (P := Tryd.prog) (E := { (gq33.E) with gv := [fnE [.one (.str)] [.one (.bool)] f] }) (by kernel_rfl) h
theorem gq33.hok (f : ((ByteArray × Unit) → Option (Bool × Unit))) (hE : EOk Tryd.prog (gq33.E)) : HintOk Tryd.prog { (gq33.E) with gv := [fnE [.one (.str)] [.one (.bool)] f] } (bodyOf Tryd.f33) (.n (.a) (.n (.n (.a) (.b (.s (gq33.S1 f)))) (.a))) := HintOk.n1 (Q := (True) ∧ (((True) ∧ (SumOk Tryd.prog { (gq33.E) with gv := [fnE [.one (.str)] [.one (.bool)] f] } (cB (cR (cL (cR (bodyOf Tryd.f33))))) (gq33.S1 f))) ∧ (True))) (by kernel_rfl) ⟨trivial, ⟨⟨trivial, (gq33.ok1 f hE)⟩, trivial⟩⟩
theorem gq33.hE : EOk Tryd.prog (gq33.E) := EOk.of ttOk (trivial)
theorem gq33.fok : FOk Tryd.prog 33 gq33.fi :=
 fokS (E := gq33.E) (wy := ⟨[[none]], [[], []], []⟩) (h := (fun gs => let f := fnP [.one (.str)] [.one (.bool)] (gN 0 gs); .n (.a) (.n (.n (.a) (.b (.s (gq33.S1 f)))) (.a)))) (G := fun t g => gq33.F (fun y0 => g y0) t.1 t.2.1) (by kernel_rfl) gq33.hE Tryd.func33 (by kernel_rfl) rfl (Nat.le_refl _) (fun t => HintOk.n1 (by kernel_rfl) (gq33.hok t.2.1 gq33.hE)) (fun t g => gq33.F_nat g (fun y0 => some y0) _ _) (fun t => by kernel_rfl)
def gq22.F {R : Type} (kk : Bool → Option R) (s : List ByteArray) (f : ((ByteArray × Unit) → Option (Bool × Unit))) : Option R :=
 (gq33 s f).bind fun r =>
 kk (decide (r ≥ (0 : Int)))
theorem gq22.F_nat {R S : Type} (g : R → Option S) (kk : Bool → Option R) (s f) : gq22.F (fun y0 => (kk y0).bind g) s f = (gq22.F kk s f).bind g := by
 simp only [gq22.F, grd_bind, cnd_bind, bnd_bind, non_bind]
def gq22 (s : List ByteArray) (f : ((ByteArray × Unit) → Option (Bool × Unit))) : Option Bool := gq22.F (fun y0 => some y0) s f
def gq22.out : Bool → CRes := fun a => ⟨encL SV.enc [.one (.bool)] (a, ()), [encL SC.enc [] (), encL SC.enc [] ()]⟩
def gq22.ps : List PS := [.val [some (.str, false)], .fn [.one (.bool)]]
def gq22.sA : List SA := [.v (.one (.slv [] .str)), .fn [.one (.str)] [.one (.bool)]]
def gq22.fi : FI := FIs gq22.sA (Bool) (fun t => gq22 t.1 t.2.1) gq22.out gq22.ps
def gq22.E : Env := ⟨tt, lkF [(33, gq33.fi)], 9, 0, [], [], []⟩
theorem gq22.hok (f : ((ByteArray × Unit) → Option (Bool × Unit))) (hE : EOk Tryd.prog (gq22.E)) : HintOk Tryd.prog { (gq22.E) with gv := [fnE [.one (.str)] [.one (.bool)] f] } (bodyOf Tryd.f22) (.a) := HintOk.n1 (Q := True) (by kernel_rfl) trivial
theorem gq22.hE : EOk Tryd.prog (gq22.E) := EOk.of ttOk (⟨gq33.fok, trivial⟩)
theorem gq22.fok : FOk Tryd.prog 22 gq22.fi :=
 fokS (E := gq22.E) (wy := ⟨[[none]], [[], []], []⟩) (h := (fun gs => let f := fnP [.one (.str)] [.one (.bool)] (gN 0 gs); .a)) (G := fun t g => gq22.F (fun y0 => g y0) t.1 t.2.1) (by kernel_rfl) gq22.hE Tryd.func22 (by kernel_rfl) rfl (Nat.le_refl _) (fun t => HintOk.n1 (by kernel_rfl) (gq22.hok t.2.1 gq22.hE)) (fun t g => gq22.F_nat g (fun y0 => some y0) _ _) (fun t => by kernel_rfl)
def gq23.F {R : Type} (kk : Bool → Option R) (t_ : ByteArray) : Option R :=
 kk (decide ((ByteArray.size t_ : Int) > (65536 : Int)))
theorem gq23.F_nat {R S : Type} (g : R → Option S) (kk : Bool → Option R) (t_) : gq23.F (fun y0 => (kk y0).bind g) t_ = (gq23.F kk t_).bind g := by
 simp only [gq23.F, grd_bind, cnd_bind, bnd_bind, non_bind]
def gq23 (t_ : ByteArray) : Option Bool := gq23.F (fun y0 => some y0) t_
def gq23.out : Bool → CRes := fun a => ⟨encL SV.enc [.one (.bool)] (a, ()), [encL SC.enc [] ()]⟩
def gq23.ps : List PS := [.val [none]]
def gq23.sA : List SA := [.v (.one (.str))]
def gq23.fi : FI := FIs gq23.sA (Bool) (fun t => gq23 t.1) gq23.out gq23.ps
def gq23.E : Env := ⟨tt, lkF [], 6, 0, [], [], []⟩
theorem gq23.hok (hE : EOk Tryd.prog (gq23.E)) : HintOk Tryd.prog gq23.E (bodyOf Tryd.f23) (.a) := HintOk.n1 (Q := True) (by kernel_rfl) trivial
theorem gq23.hE : EOk Tryd.prog (gq23.E) := EOk.of ttOk (trivial)
theorem gq23.fok : FOk Tryd.prog 23 gq23.fi :=
 fokS (E := gq23.E) (wy := ⟨[[none]], [[]], []⟩) (h := (fun gs => .a)) (G := fun t g => gq23.F (fun y0 => g y0) t.1) (by kernel_rfl) gq23.hE Tryd.func23 (by kernel_rfl) rfl (Nat.le_refl _) (fun t => HintOk.n1 (by kernel_rfl) (gq23.hok gq23.hE)) (fun t g => gq23.F_nat g (fun y0 => some y0) _) (fun t => by kernel_rfl)
def gq12.F {R : Type} (kk : Bool → Option R) (texts : List ByteArray) : Option R :=
 (gq22 texts (fun t => (gq23 t.1).bind fun a => some (a, ()))).bind fun r =>
 kk (!r)
theorem gq12.F_nat {R S : Type} (g : R → Option S) (kk : Bool → Option R) (texts) : gq12.F (fun y0 => (kk y0).bind g) texts = (gq12.F kk texts).bind g := by
 simp only [gq12.F, grd_bind, cnd_bind, bnd_bind, non_bind]
def gq12 (texts : List ByteArray) : Option Bool := gq12.F (fun y0 => some y0) texts
def gq12.out : Bool → CRes := fun a => ⟨encL SV.enc [.one (.bool)] (a, ()), [encL SC.enc [] ()]⟩
def gq12.ps : List PS := [.val [some (.str, false)]]
def gq12.sA : List SA := [.v (.one (.slv [] .str))]
def gq12.fi : FI := FIs gq12.sA (Bool) (fun t => gq12 t.1) gq12.out gq12.ps
def gq12.E : Env := ⟨tt, lkF [(22, gq22.fi), (23, gq23.fi)], 6, 0, [], [], []⟩
theorem gq12.hok (hE : EOk Tryd.prog (gq12.E)) : HintOk Tryd.prog gq12.E (bodyOf Tryd.f12) (.a) := HintOk.n1 (Q := True) (by kernel_rfl) trivial
theorem gq12.hE : EOk Tryd.prog (gq12.E) := EOk.of ttOk (⟨gq22.fok, ⟨gq23.fok, trivial⟩⟩)
theorem gq12.fok : FOk Tryd.prog 12 gq12.fi :=
 fokS (E := gq12.E) (wy := ⟨[[none]], [[]], []⟩) (h := (fun gs => .a)) (G := fun t g => gq12.F (fun y0 => g y0) t.1) (by kernel_rfl) gq12.hE Tryd.func12 (by kernel_rfl) rfl (Nat.le_refl _) (fun t => HintOk.n1 (by kernel_rfl) (gq12.hok gq12.hE)) (fun t g => gq12.F_nat g (fun y0 => some y0) _) (fun t => by kernel_rfl)
theorem spl_ex : ∃ f : (ByteArray → ByteArray → List ByteArray) × (ByteArray → ByteArray → Bool), f.1 = (fun s c => Lib.splitB c 0 (Lib.countB s c) s) ∧ f.2 = (fun s c => decide (s.size < 4294967281) && decide (1 ≤ c.size)) := ⟨(_, _), rfl, rfl⟩
noncomputable def splS : ByteArray → ByteArray → List ByteArray := (Classical.choose spl_ex).1
noncomputable def gSpl : ByteArray → ByteArray → Bool := (Classical.choose spl_ex).2
theorem splS_eq (s c : ByteArray) : splS s c = Lib.splitB c 0 (Lib.countB s c) s := congrFun (congrFun (Classical.choose_spec spl_ex).1 s) c
theorem gSpl_eq (s c : ByteArray) : gSpl s c = (decide (s.size < 4294967281) && decide (1 ≤ c.size)) := congrFun (congrFun (Classical.choose_spec spl_ex).2 s) c
noncomputable def gq13.F {R : Type} (kk : List ByteArray → Option R) (s : ByteArray) (c : ByteArray) : Option R := grd (gSpl s c) <| kk (splS s c)
theorem gq13_ex : ∃ f : ByteArray → ByteArray → Option (List ByteArray), f = fun s n => gq13.F (fun y0 => some y0) s n := ⟨_, rfl⟩
noncomputable def gq13 : ByteArray → ByteArray → Option (List ByteArray) := Classical.choose gq13_ex
theorem gq13_eq (s c : ByteArray) : gq13 s c = gq13.F (fun y0 => some y0) s c := congrFun (congrFun (Classical.choose_spec gq13_ex) s) c
def gq13.out : (List ByteArray) → CRes := fun a => ⟨encL SV.enc [.one (.own [] .str true)] (a, ()), [encL SC.enc [] (), encL SC.enc [] ()]⟩
def gq13.ps : List PS := [.val [none], .val [none]]
def gq13.sA : List SA := [.v (.one (.str)), .v (.one (.str))]
noncomputable def gq13.fi : FI := FIs gq13.sA (List ByteArray) (fun t => gq13 t.1 t.2.1) gq13.out gq13.ps
theorem gq13.fok : FOk Tryd.prog 13 gq13.fi := by
 refine fok_rowT ⟨_, _, Tryd.func13, by kernel_rfl, rfl⟩ (by kernel_rfl) (fun a => by kernel_rfl) (fun t a h w hT hZ => ?_)
 obtain ⟨s, c, u⟩ := t
 have h' : grd (gSpl s c) (some (splS s c)) = some a := (gq13_eq s c).symm.trans h
 cases hg : gSpl s c with
 | false => rw [hg] at h'; cases h'
 | true =>
  rw [hg] at h'
  obtain rfl := Option.some.inj h'
  rw [gSpl_eq, Bool.and_eq_true, decide_eq_true_iff, decide_eq_true_iff] at hg
  obtain ⟨_, m, hm, hc⟩ := hT (0, [.i64]) (by simp [tabs]) 0 .i64 rfl
  obtain ⟨m, rfl⟩ := hc
  rw [splS_eq]
  refine (Tryd.strings_Split s c m w hg.1 hm hg.2).mono ?_
  rintro e w' ⟨rfl, rfl⟩
  rw [Lib.splitB_all c hg.2 0 _ s rfl]
  exact ⟨rfl, _, rfl⟩
section RN
open Go.Shelf Go.RowKit Go.Lib
def rnV0 (s : ByteArray) : Int × Bool := match Lib.atoiAll s.data.toList with
 | .ok v => if Lib.itoa v = s.data.toList ∧ (Lib.trimPrefix s.data.toList [45]).length ≤ 18 then (v, true) else (0, false)
 | _ => (0, false)
theorem tab_pow {P : Program} {w : World} (hn : P.globalNamed "internal/strconv.uint64pow10" = some 5) (hT : Tab (fun _ => True) w) (hZ : TabZ w) : Lib.TabIs P w "internal/strconv.uint64pow10" .u64 Lib.pow10Tab := by
 have hm : (5, Lib.pow10Tab.map TC.u64) ∈ tabs := by
  rw [show tabs = [(0, [.i64]), (1, [.err]), (2, [.err]), (5, Lib.pow10Tab.map TC.u64)] from rfl]
  simp
 obtain ⟨e, hs⟩ := hZ _ hm
 have hc := hT _ hm
 unfold World.shape? at hs
 unfold Lib.TabIs World.var?
 rw [hn, Option.bind_some]
 split at hs
 ·rename_i c e' fz hh
  simp only [Option.some.injEq, Prod.mk.injEq] at hs
  rw [hh]
  dsimp only
  congr 1
  apply Array.ext'
  apply List.ext_getElem?
  intro j
  rcases Nat.lt_or_ge j 20 with hj | hj
  ·have h20 : Lib.pow10Tab.length = 20 := rfl
   have hg : (Lib.pow10Tab.map TC.u64)[j]? = some (TC.u64 (Lib.pow10Tab.getD j 0)) := by
    rw [List.getElem?_map, List.getElem?_eq_getElem (by omega), List.getD_eq_getElem?_getD, List.getElem?_eq_getElem (by omega)]; rfl
   obtain ⟨_, v, hv, hv2⟩ := hc j _ hg
   have hv2 : v = .int .u64 _ := hv2
   subst hv2
   have : c[j]? = some (.int .u64 (Lib.pow10Tab.getD j 0)) := by
    simpa [World.cell?, hh] using hv
   rw [List.getElem?_map, List.getElem?_eq_getElem (by omega : j < Lib.pow10Tab.length)]
   rw [Array.getElem?_toList, this, List.getD_eq_getElem?_getD, List.getElem?_eq_getElem (by omega : j < Lib.pow10Tab.length)]; rfl
  ·have h1 : c.size = 20 := hs.2
   rw [Array.getElem?_toList, Array.getElem?_eq_none (by omega), List.getElem?_eq_none (by simpa [Lib.pow10Tab] using hj)]
 ·simp at hs
theorem tabIs_below {P : Program} {w w' : World} {n : String} {k : IntKind} {zs : List Int} (h : Lib.TabIs P w n k zs) (hb : Below w.heap.size w w') : Lib.TabIs P w' n k zs := by
 unfold Lib.TabIs World.var? at h ⊢
 cases hg : P.globalNamed n with
 | none => rw [hg] at h; simp at h
 | some g =>
  rw [hg, Option.bind_some] at h
  rw [Option.bind_some]
  rcases Nat.lt_or_ge g w.heap.size with h1 | h1
  ·rw [hb.block g h1]; exact h
  ·simp [Array.getElem?_eq_none h1] at h
set_option maxHeartbeats 4000000 in
set_option maxRecDepth 100000 in
theorem readNumber_calls (s : ByteArray) (hs : s.size ≤ 281474976710656) (w : World) (hT : Tab (fun _ => True) w) (hZ : TabZ w) :
  Calls Tryd.prog 14 #[.string s] w fun e w' => e = .returned (.tuple #[.int .i64 (rnV0 s).1, .bool (rnV0 s).2]) ∧ Below w.heap.size w w' := by
 have e25 : ∀ args w, (callFunc 25 args).run Tryd.prog w = .ok (.enter 25 args) w := enters_of Tryd.func25 (by kernel_rfl) rfl
 have e26 : ∀ args w, (callFunc 26 args).run Tryd.prog w = .ok (.enter 26 args) w := enters_of Tryd.func26 (by kernel_rfl) rfl
 have e27 : ∀ args w, (callFunc 27 args).run Tryd.prog w = .ok (.enter 27 args) w := enters_of Tryd.func27 (by kernel_rfl) rfl
 cases hA : Lib.atoiAll s.data.toList with
 | range =>
  obtain ⟨_, ev, hev, hc⟩ := hT (2, [.err]) (by simp [tabs]) 0 .err rfl
  go_enter Tryd.func14, Tryd.ntmps14
  go_wp2_with (go_at_fn 25; refine (Tryd.strconv_Atoi_range s hs hA ev _ hev hc).mono ?_; rintro e w' ⟨N, rfl, h1, h2, h3⟩)
  go_wp2
  go_ret2
  refine ⟨?_, h3⟩
  simp only [rnV0, hA]; rfl
 | ok v =>
  obtain ⟨v0, v1⟩ := Lib.atoiAll_bounds hA
  have htab := tab_pow (P := Tryd.prog) (by kernel_rfl) hT hZ
  have hbw : ∀ w1, (w1 = w ∨ ∃ t, w1 = Lib.bytesWorld w 5 t) → Below w.heap.size w w1 := by
   rintro w1 (rfl | ⟨t, rfl⟩)
   ·exact Below.refl _ _
   ·exact Lib.bytesWorld_below _ _ _
  by_cases hi : Lib.itoa v = s.data.toList
  ·have hi' : (⟨(Lib.itoa v).toArray⟩ : ByteArray) = s := by rw [hi]
   by_cases ht : (Lib.trimPrefix s.data.toList [45]).length ≤ 18
   ·go_enter Tryd.func14, Tryd.ntmps14
    go_wp2_with (go_at_fn 25; refine (Tryd.strconv_Atoi_ok s (by omega) v hA _).mono ?_; rintro e w1 ⟨rfl, hw⟩; have hb1 := hbw _ hw; clear hw)
    go_wp2_with (go_at_fn 26; refine (Tryd.strconv_Itoa v (by omega) (by omega) _ (tabIs_below htab hb1)).mono ?_; rintro e w2 ⟨rfl, k, os, rfl⟩; rw [hi'])
    have hb2 : Below w.heap.size w (Go.Sort.grow (w1.drewN k) os) := hb1.trans (below_grow _ _ hb1.size _ _)
    generalize Go.Sort.grow (w1.drewN k) os = w2 at hb2 ⊢
    go_wp2_with (go_at_fn 27; refine (Tryd.strings_TrimPrefix s ⟨#[45]⟩ _).mono ?_; rintro e w3 ⟨rfl, rfl⟩)
    go_wp2
    go_ret2
    refine ⟨?_, hb2⟩
    simp [rnV0, hA, hi, ht]
   ·go_enter Tryd.func14, Tryd.ntmps14
    go_wp2_with (go_at_fn 25; refine (Tryd.strconv_Atoi_ok s (by omega) v hA _).mono ?_; rintro e w1 ⟨rfl, hw⟩; have hb1 := hbw _ hw; clear hw)
    go_wp2_with (go_at_fn 26; refine (Tryd.strconv_Itoa v (by omega) (by omega) _ (tabIs_below htab hb1)).mono ?_; rintro e w2 ⟨rfl, k, os, rfl⟩; rw [hi'])
    have hb2 : Below w.heap.size w (Go.Sort.grow (w1.drewN k) os) := hb1.trans (below_grow _ _ hb1.size _ _)
    generalize Go.Sort.grow (w1.drewN k) os = w2 at hb2 ⊢
    go_wp2_with (go_at_fn 27; refine (Tryd.strings_TrimPrefix s ⟨#[45]⟩ _).mono ?_; rintro e w3 ⟨rfl, rfl⟩)
    go_wp2
    go_ret2
    refine ⟨?_, hb2⟩
    simp [rnV0, hA, hi, ht]
  ·have hi' : ¬ (⟨(Lib.itoa v).toArray⟩ : ByteArray) = s := fun h => hi (by rw [← h])
   have hi0 : ¬ Lib.itoa v = s.toList := fun h => hi (by rw [h]; first | rfl | simp [ByteArray.toList_eq] )
   go_enter Tryd.func14, Tryd.ntmps14
   go_wp2_with (go_at_fn 25; refine (Tryd.strconv_Atoi_ok s (by omega) v hA _).mono ?_; rintro e w1 ⟨rfl, hw⟩; have hb1 := hbw _ hw; clear hw)
   go_wp2_with (go_at_fn 26; refine (Tryd.strconv_Itoa v (by omega) (by omega) _ (tabIs_below htab hb1)).mono ?_; rintro e w2 ⟨rfl, k, os, rfl⟩)
   have hb2 : Below w.heap.size w (Go.Sort.grow (w1.drewN k) os) := hb1.trans (below_grow _ _ hb1.size _ _)
   generalize Go.Sort.grow (w1.drewN k) os = w2 at hb2 ⊢
   go_wp2
   go_ret2
   refine ⟨?_, hb2⟩
   simp [rnV0, hA, hi]
 | _ =>
  obtain ⟨_, ev, hev, hc⟩ := hT (1, [.err]) (by simp [tabs]) 0 .err rfl
  have c25 : Calls Tryd.prog 25 #[.string s] w fun e w' => ∃ (N : Nat) (t : TypeId), e = .returned (.tuple #[.int .i64 0, .iface t (.pointer (some ⟨N, 0, none⟩))]) ∧ Below w.heap.size w w' :=
   (Any.strconv_Atoi_syntax Tryd.laysC172 s hs hA ev w hev hc).mono fun e w' ⟨N, h1, h2, h3, h4⟩ => ⟨N, _, h1, h4⟩
  go_enter Tryd.func14, Tryd.ntmps14
  go_wp2_with (go_at_fn 25; refine c25.mono ?_; rintro e w' ⟨N, ty, rfl, h3⟩)
  go_wp2
  go_ret2
  refine ⟨?_, h3⟩
  simp only [rnV0, hA]; rfl
end RN
theorem rdn_ex : ∃ f : (ByteArray → Int) × (ByteArray → Bool) × (ByteArray → Bool), f.1 = (fun s => (rnV0 s).1) ∧ f.2.1 = (fun s => (rnV0 s).2) ∧ f.2.2 = (fun s => decide (s.size ≤ 281474976710656)) := ⟨(_, _, _), rfl, rfl, rfl⟩
noncomputable def rdnI : ByteArray → Int := (Classical.choose rdn_ex).1
noncomputable def rdnB : ByteArray → Bool := (Classical.choose rdn_ex).2.1
noncomputable def gRn : ByteArray → Bool := (Classical.choose rdn_ex).2.2
theorem rdnI_eq (s : ByteArray) : rdnI s = (rnV0 s).1 := congrFun (Classical.choose_spec rdn_ex).1 s
theorem rdnB_eq (s : ByteArray) : rdnB s = (rnV0 s).2 := congrFun (Classical.choose_spec rdn_ex).2.1 s
theorem gRn_eq (s : ByteArray) : gRn s = decide (s.size ≤ 281474976710656) := congrFun (Classical.choose_spec rdn_ex).2.2 s
noncomputable def gq14.F {R : Type} (kk : Int → Bool → Option R) (s : ByteArray) : Option R := grd (gRn s) <| kk (rdnI s) (rdnB s)
theorem gq14_ex : ∃ f : ByteArray → Option (Int × Bool), f = fun s => gq14.F (fun y0 y1 => some (y0, y1)) s := ⟨_, rfl⟩
noncomputable def gq14 : ByteArray → Option (Int × Bool) := Classical.choose gq14_ex
theorem gq14_eq (s : ByteArray) : gq14 s = gq14.F (fun y0 y1 => some (y0, y1)) s := congrFun (Classical.choose_spec gq14_ex) s
def gq14.out : (Int × Bool) → CRes := fun a => ⟨encL SV.enc [.one (.int .i64), .one (.bool)] (a.1, a.2, ()), [encL SC.enc [] ()]⟩
def gq14.ps : List PS := [.val [none]]
def gq14.sA : List SA := [.v (.one (.str))]
noncomputable def gq14.fi : FI := FIs gq14.sA (Int × Bool) (fun t => gq14 t.1) gq14.out gq14.ps
theorem gq14.fok : FOk Tryd.prog 14 gq14.fi := by
 refine fok_extT ⟨_, _, Tryd.func14, by kernel_rfl, rfl⟩ (by kernel_rfl) (fun a => [.int .i64 a.1, .bool a.2]) (fun a => by kernel_rfl) (fun a => by kernel_rfl) (fun t a h w hT hZ => ?_)
 obtain ⟨s, u⟩ := t
 have h' : grd (gRn s) (some (rdnI s, rdnB s)) = some a := (gq14_eq s).symm.trans h
 cases hg : gRn s with
 | false => rw [hg] at h'; cases h'
 | true =>
  rw [hg] at h'
  obtain rfl := Option.some.inj h'
  rw [gRn_eq] at hg
  have := readNumber_calls s (of_decide_eq_true hg) w hT hZ
  rw [rdnI_eq, rdnB_eq]
  exact this
theorem trim_ex : ∃ f : (ByteArray → ByteArray → ByteArray) × (ByteArray → ByteArray → Bool), f.1 = (fun s c => ⟨(Lib.trimS s.data.toList c.data.toList).toArray⟩) ∧ f.2 = (fun s c => decide (s.size ≤ 9223372036854775807) && (decide (c.size < 4294967281) && c.data.toList.all (fun b => decide (b.toNat < 128)))) := ⟨(_, _), rfl, rfl⟩
noncomputable def trimS : ByteArray → ByteArray → ByteArray := (Classical.choose trim_ex).1
noncomputable def gTrim : ByteArray → ByteArray → Bool := (Classical.choose trim_ex).2
theorem trimS_eq (s c : ByteArray) : trimS s c = ⟨(Lib.trimS s.data.toList c.data.toList).toArray⟩ := congrFun (congrFun (Classical.choose_spec trim_ex).1 s) c
theorem gTrim_eq (s c : ByteArray) : gTrim s c = (decide (s.size ≤ 9223372036854775807) && (decide (c.size < 4294967281) && c.data.toList.all (fun b => decide (b.toNat < 128)))) := congrFun (congrFun (Classical.choose_spec trim_ex).2 s) c
noncomputable def gq28.F {R : Type} (kk : ByteArray → Option R) (s : ByteArray) (c : ByteArray) : Option R := grd (gTrim s c) <| kk (trimS s c)
theorem gq28_ex : ∃ f : ByteArray → ByteArray → Option ByteArray, f = fun s n => gq28.F (fun y0 => some y0) s n := ⟨_, rfl⟩
noncomputable def gq28 : ByteArray → ByteArray → Option ByteArray := Classical.choose gq28_ex
theorem gq28_eq (s c : ByteArray) : gq28 s c = gq28.F (fun y0 => some y0) s c := congrFun (congrFun (Classical.choose_spec gq28_ex) s) c
def gq28.out : (ByteArray) → CRes := fun a => ⟨encL SV.enc [.one (.str)] (a, ()), [encL SC.enc [] (), encL SC.enc [] ()]⟩
def gq28.ps : List PS := [.val [none], .val [none]]
def gq28.sA : List SA := [.v (.one (.str)), .v (.one (.str))]
noncomputable def gq28.fi : FI := FIs gq28.sA (ByteArray) (fun t => gq28 t.1 t.2.1) gq28.out gq28.ps
theorem gq28.fok : FOk Tryd.prog 28 gq28.fi := by
 refine fok_ext ⟨_, _, Tryd.func28, by kernel_rfl, rfl⟩ (by kernel_rfl) (fun a => [.str a]) (fun a => by kernel_rfl) (fun a => by kernel_rfl) (fun t a h w => ?_)
 obtain ⟨s, c, u⟩ := t
 have h' : grd (gTrim s c) (some (trimS s c)) = some a := (gq28_eq s c).symm.trans h
 cases hg : gTrim s c with
 | false => rw [hg] at h'; cases h'
 | true =>
  rw [hg] at h'
  obtain rfl := Option.some.inj h'
  rw [gTrim_eq, Bool.and_eq_true, Bool.and_eq_true, decide_eq_true_iff, decide_eq_true_iff] at hg
  obtain ⟨h0, h1, h2⟩ := hg
  rw [trimS_eq]
  exact Any.strings_Trim_laid Tryd.lays160 (by kernel_rfl) s c w h0 h1 (ascii_of_all h2)
theorem ixb_ex : ∃ f : ByteArray → Int → Int, f = (fun s c => Lib.indexByte s.data.toList c.toNat.toUInt8) := ⟨_, rfl⟩
noncomputable def ixbS : ByteArray → Int → Int := Classical.choose ixb_ex
theorem ixbS_eq (s : ByteArray) (c : Int) : ixbS s c = Lib.indexByte s.data.toList c.toNat.toUInt8 := congrFun (congrFun (Classical.choose_spec ixb_ex) s) c
noncomputable def gq29.F {R : Type} (kk : Int → Option R) (s : ByteArray) (c : Int) : Option R := kk (ixbS s c)
theorem gq29_ex : ∃ f : ByteArray → Int → Option Int, f = fun a b => gq29.F (fun y0 => some y0) a b := ⟨_, rfl⟩
noncomputable def gq29 : ByteArray → Int → Option Int := Classical.choose gq29_ex
theorem gq29_eq (s : ByteArray) (c : Int) : gq29 s c = gq29.F (fun y0 => some y0) s c := congrFun (congrFun (Classical.choose_spec gq29_ex) s) c
def gq29.out : (Int) → CRes := fun a => ⟨encL SV.enc [.one (.int .i64)] (a, ()), [encL SC.enc [] (), encL SC.enc [] ()]⟩
def gq29.ps : List PS := [.val [none], .val [none]]
def gq29.sA : List SA := [.v (.one (.str)), .v (.one (.int .u8))]
noncomputable def gq29.fi : FI := FIs gq29.sA (Int) (fun t => gq29 t.1 t.2.1) gq29.out gq29.ps
theorem gq29.fok : FOk Tryd.prog 29 gq29.fi := by
 refine fok_ext ⟨_, _, Tryd.func29, by kernel_rfl, rfl⟩ (by kernel_rfl) (fun a => [.int .i64 a]) (fun a => by kernel_rfl) (fun a => by kernel_rfl) (fun t a h w => ?_)
 obtain ⟨s, c, u⟩ := t
 have h' : some (ixbS s c) = some a := (gq29_eq s c).symm.trans h
 obtain rfl := Option.some.inj h'
 rw [ixbS_eq]
 refine (Tryd.strings_IndexByte s c w).mono ?_
 rintro e w' ⟨rfl, rfl⟩
 exact ⟨rfl, RowKit.Below.refl _ _⟩
def gq15.l1 {R : Type} (kke0 : List Int → Option R) : Nat → ByteArray → Int → List Int → Option R
 | 0, _, _, _ => none
 | n + 1, t_, i, out =>
  cond (decide (i < (ByteArray.size t_ : Int))) (
   grd (gIx i (ByteArray.size t_)) <|
   (gq29 (⟨#[48, 49, 50, 51, 52, 53, 54, 55, 56, 57, 97, 98, 99, 100, 101, 102]⟩ : ByteArray) (byteAt t_ i)).bind fun r =>
   grd (gSh (4 : Int)) <|
   grd (gIx (IntKind.wrap .i64 (i + (1 : Int))) (ByteArray.size t_)) <|
   (gq29 (⟨#[48, 49, 50, 51, 52, 53, 54, 55, 56, 57, 97, 98, 99, 100, 101, 102]⟩ : ByteArray) (byteAt t_ (IntKind.wrap .i64 (i + (1 : Int))))).bind fun r1 =>
   grd (gRm (((List.length out) + (List.length [IntKind.wrap .u8 (IntKind.wrap .i64 ((iShl .i64 r (4 : Int)) + r1))])) * 1)) <|
   gq15.l1 kke0 n t_ (IntKind.wrap .i64 (i + (2 : Int))) (out ++ [IntKind.wrap .u8 (IntKind.wrap .i64 ((iShl .i64 r (4 : Int)) + r1))])) (kke0 out)
theorem gq15.l1_nat {R S : Type} (g : R → Option S) (kke0 : List Int → Option R) : ∀ n t_ i out, gq15.l1 (fun y0 => (kke0 y0).bind g) n t_ i out = (gq15.l1 kke0 n t_ i out).bind g := by
 intro n
 induction n with
 | zero => intros; rfl
 | succ n ih => intros; simp only [gq15.l1, grd_bind, cnd_bind, bnd_bind, non_bind, ih]
def gq15.F {R : Type} (kk : ByteArray → Bool → Option R) (t_ : ByteArray) : Option R :=
 cond ((ByteArray.size t_ : Int) != (64 : Int)) (kk ByteArray.empty false) (
  (gq28 t_ (⟨#[48, 49, 50, 51, 52, 53, 54, 55, 56, 57, 97, 98, 99, 100, 101, 102]⟩ : ByteArray)).bind fun r =>
  cond (!(sEq r ByteArray.empty)) (kk ByteArray.empty false) (gq15.l1 (fun out => kk (strL out) true) fuel t_ (0 : Int) ([] : List Int)))
theorem gq15.F_nat {R S : Type} (g : R → Option S) (kk : ByteArray → Bool → Option R) (t_) : gq15.F (fun y0 y1 => (kk y0 y1).bind g) t_ = (gq15.F kk t_).bind g := by
 simp only [gq15.F, grd_bind, cnd_bind, bnd_bind, non_bind, ← gq15.l1_nat]
def gq15 (t_ : ByteArray) : Option (ByteArray × Bool) := gq15.F (fun y0 y1 => some (y0, y1)) t_
def gq15.out : (ByteArray × Bool) → CRes := fun a => ⟨encL SV.enc [.one (.str), .one (.bool)] (a.1, a.2, ()), [encL SC.enc [] ()]⟩
def gq15.ps : List PS := [.val [none]]
def gq15.sA : List SA := [.v (.one (.str))]
def gq15.fi : FI := FIs gq15.sA (ByteArray × Bool) (fun t => gq15 t.1) gq15.out gq15.ps
def gq15.E : Env := ⟨tt, lkF [(28, gq28.fi), (29, gq29.fi)], 38, 0, [], [], []⟩
def gq15.sh1 : SK := ⟨[.v (.one (.str)), .v (.one (.slo 0)), .v (.one (.int .i64))], [.arr (.int .u8) [] true]⟩
def gq15.sh1e0 : SK := ⟨[.v (.one (.slo 0))], [.arr (.int .u8) [] true]⟩
def gq15.ko1 : Ex → List CastAt × List Nat
 | .nrm => ([], [])
 | .ret => ([], [])
 | .ext i => cond (Nat.beq i 0) ([], [4]) ([], [])
def gq15.G1 (n : Nat) (R : Type) (t : gq15.sh1.T) (K : Ex → Kp → Option R) : Option R := gq15.l1 (fun y0 => K (.ext 0) (SK.enc gq15.sh1e0 (((), ()), (y0, ())))) n t.1.1 t.1.2.2.1 t.2.1
def gq15.S1 : Sum := ⟨([], [0, 4, 5]), sumF gq15.sh1 (gq15.G1 fuel), gq15.ko1⟩
theorem gq15.ok1 (hE : EOk Tryd.prog (gq15.E)) : SumOk Tryd.prog gq15.E (cB (cR (cL (cR (cR (cR (bodyOf Tryd.f15))))))) (gq15.S1) := by
 have hh : HintOk Tryd.prog gq15.E (cB (cB (cR (cL (cR (cR (cR (bodyOf Tryd.f15)))))))) (.a) := HintOk.n1 (Q := True) (by kernel_rfl) trivial
 have h := loopS (kin := ([], [0, 4, 5])) (kout := gq15.ko1) (sh := gq15.sh1) (F := gq15.G1) (ops_ok (hE.gv _)) (by kernel_rfl) hh (fun _ _ _ => rfl) (fun n R t K => by kernel_rfl) fuel
 exact HintOk.n1 (c := (cB (cR (cL (cR (cR (cR (bodyOf Tryd.f15)))))))) (h := .s (gq15.S1)) (P := Tryd.prog) (E := gq15.E) (by kernel_rfl) h
theorem gq15.hok (hE : EOk Tryd.prog (gq15.E)) : HintOk Tryd.prog gq15.E (bodyOf Tryd.f15) (.n (.a) (.n (.a) (.n (.a) (.n (.n (.a) (.b (.s (gq15.S1)))) (.a))))) := HintOk.n1 (Q := (True) ∧ ((True) ∧ ((True) ∧ (((True) ∧ (SumOk Tryd.prog gq15.E (cB (cR (cL (cR (cR (cR (bodyOf Tryd.f15))))))) (gq15.S1))) ∧ (True))))) (by kernel_rfl) ⟨trivial, ⟨trivial, ⟨trivial, ⟨⟨trivial, (gq15.ok1 hE)⟩, trivial⟩⟩⟩⟩
theorem gq15.hE : EOk Tryd.prog (gq15.E) := EOk.of ttOk (⟨gq28.fok, ⟨gq29.fok, trivial⟩⟩)
theorem gq15.fok : FOk Tryd.prog 15 gq15.fi :=
 fokS (E := gq15.E) (wy := ⟨[[none], [none]], [[]], []⟩) (h := (fun gs => .n (.a) (.n (.a) (.n (.a) (.n (.n (.a) (.b (.s (gq15.S1)))) (.a)))))) (G := fun t g => gq15.F (fun y0 y1 => g (y0, y1)) t.1) (by kernel_rfl) gq15.hE Tryd.func15 (by kernel_rfl) rfl (Nat.le_refl _) (fun t => HintOk.n1 (by kernel_rfl) (gq15.hok gq15.hE)) (fun t g => gq15.F_nat g (fun y0 y1 => some (y0, y1)) _) (fun t => by kernel_rfl)
def gq30.F {R : Type} (kk : Bool → Option R) (n_ : Int) (low : Int) (high : Int) : Option R :=
 cond (decide (n_ ≥ low)) (kk (decide (n_ ≤ high))) (kk false)
theorem gq30.F_nat {R S : Type} (g : R → Option S) (kk : Bool → Option R) (n_ low high) : gq30.F (fun y0 => (kk y0).bind g) n_ low high = (gq30.F kk n_ low high).bind g := by
 simp only [gq30.F, grd_bind, cnd_bind, bnd_bind, non_bind]
def gq30 (n_ : Int) (low : Int) (high : Int) : Option Bool := gq30.F (fun y0 => some y0) n_ low high
def gq30.out : Bool → CRes := fun a => ⟨encL SV.enc [.one (.bool)] (a, ()), [encL SC.enc [] (), encL SC.enc [] (), encL SC.enc [] ()]⟩
def gq30.ps : List PS := [.val [none], .val [none], .val [none]]
def gq30.sA : List SA := [.v (.one (.int .i64)), .v (.one (.int .i64)), .v (.one (.int .i64))]
def gq30.fi : FI := FIs gq30.sA (Bool) (fun t => gq30 t.1 t.2.1 t.2.2.1) gq30.out gq30.ps
def gq30.E : Env := ⟨tt, lkF [], 15, 0, [], [], []⟩
theorem gq30.hok (hE : EOk Tryd.prog (gq30.E)) : HintOk Tryd.prog gq30.E (bodyOf Tryd.f30) (.a) := HintOk.n1 (Q := True) (by kernel_rfl) trivial
theorem gq30.hE : EOk Tryd.prog (gq30.E) := EOk.of ttOk (trivial)
theorem gq30.fok : FOk Tryd.prog 30 gq30.fi :=
 fokS (E := gq30.E) (wy := ⟨[[none]], [[], [], []], []⟩) (h := (fun gs => .a)) (G := fun t g => gq30.F (fun y0 => g y0) t.1 t.2.1 t.2.2.1) (by kernel_rfl) gq30.hE Tryd.func30 (by kernel_rfl) rfl (Nat.le_refl _) (fun t => HintOk.n1 (by kernel_rfl) (gq30.hok gq30.hE)) (fun t g => gq30.F_nat g (fun y0 => some y0) _ _ _) (fun t => by kernel_rfl)
def gq49.F {R : Type} (kk : Bool → Option R) (t_ : ByteArray) : Option R :=
 kk ((ByteArray.size t_ : Int) != (32 : Int))
theorem gq49.F_nat {R S : Type} (g : R → Option S) (kk : Bool → Option R) (t_) : gq49.F (fun y0 => (kk y0).bind g) t_ = (gq49.F kk t_).bind g := by
 simp only [gq49.F, grd_bind, cnd_bind, bnd_bind, non_bind]
def gq49 (t_ : ByteArray) : Option Bool := gq49.F (fun y0 => some y0) t_
def gq49.out : Bool → CRes := fun a => ⟨encL SV.enc [.one (.bool)] (a, ()), [encL SC.enc [] ()]⟩
def gq49.ps : List PS := [.val [none]]
def gq49.sA : List SA := [.v (.one (.str))]
def gq49.fi : FI := FIs gq49.sA (Bool) (fun t => gq49 t.1) gq49.out gq49.ps
def gq49.E : Env := ⟨tt, lkF [], 6, 0, [], [], []⟩
theorem gq49.hok (hE : EOk Tryd.prog (gq49.E)) : HintOk Tryd.prog gq49.E (bodyOf Tryd.f49) (.a) := HintOk.n1 (Q := True) (by kernel_rfl) trivial
theorem gq49.hE : EOk Tryd.prog (gq49.E) := EOk.of ttOk (trivial)
theorem gq49.fok : FOk Tryd.prog 49 gq49.fi :=
 fokS (E := gq49.E) (wy := ⟨[[none]], [[]], []⟩) (h := (fun gs => .a)) (G := fun t g => gq49.F (fun y0 => g y0) t.1) (by kernel_rfl) gq49.hE Tryd.func49 (by kernel_rfl) rfl (Nat.le_refl _) (fun t => HintOk.n1 (by kernel_rfl) (gq49.hok gq49.hE)) (fun t g => gq49.F_nat g (fun y0 => some y0) _) (fun t => by kernel_rfl)
def gq31.F {R : Type} (kk : Bool → Option R) (texts : List ByteArray) : Option R :=
 (gq22 texts (fun t => (gq49 t.1).bind fun a => some (a, ()))).bind fun r =>
 kk (!r)
theorem gq31.F_nat {R S : Type} (g : R → Option S) (kk : Bool → Option R) (texts) : gq31.F (fun y0 => (kk y0).bind g) texts = (gq31.F kk texts).bind g := by
 simp only [gq31.F, grd_bind, cnd_bind, bnd_bind, non_bind]
def gq31 (texts : List ByteArray) : Option Bool := gq31.F (fun y0 => some y0) texts
def gq31.out : Bool → CRes := fun a => ⟨encL SV.enc [.one (.bool)] (a, ()), [encL SC.enc [] ()]⟩
def gq31.ps : List PS := [.val [some (.str, false)]]
def gq31.sA : List SA := [.v (.one (.slv [] .str))]
def gq31.fi : FI := FIs gq31.sA (Bool) (fun t => gq31 t.1) gq31.out gq31.ps
def gq31.E : Env := ⟨tt, lkF [(22, gq22.fi), (49, gq49.fi)], 6, 0, [], [], []⟩
theorem gq31.hok (hE : EOk Tryd.prog (gq31.E)) : HintOk Tryd.prog gq31.E (bodyOf Tryd.f31) (.a) := HintOk.n1 (Q := True) (by kernel_rfl) trivial
theorem gq31.hE : EOk Tryd.prog (gq31.E) := EOk.of ttOk (⟨gq22.fok, ⟨gq49.fok, trivial⟩⟩)
theorem gq31.fok : FOk Tryd.prog 31 gq31.fi :=
 fokS (E := gq31.E) (wy := ⟨[[none]], [[]], []⟩) (h := (fun gs => .a)) (G := fun t g => gq31.F (fun y0 => g y0) t.1) (by kernel_rfl) gq31.hE Tryd.func31 (by kernel_rfl) rfl (Nat.le_refl _) (fun t => HintOk.n1 (by kernel_rfl) (gq31.hok gq31.hE)) (fun t g => gq31.F_nat g (fun y0 => some y0) _) (fun t => by kernel_rfl)
def gq16.F {R : Type} (kk : Bool → Option R) (s_Size : Int) (s_Log : ByteArray) (s_Map : ByteArray) : Option R :=
 (gq30 s_Size (0 : Int) (50 : Int)).bind fun r =>
 cond (r) (
  (gq31 [s_Log, s_Map]).bind fun r1 =>
  kk r1) (kk false)
theorem gq16.F_nat {R S : Type} (g : R → Option S) (kk : Bool → Option R) (s_Size s_Log s_Map) : gq16.F (fun y0 => (kk y0).bind g) s_Size s_Log s_Map = (gq16.F kk s_Size s_Log s_Map).bind g := by
 simp only [gq16.F, grd_bind, cnd_bind, bnd_bind, non_bind]
def gq16 (s_Size : Int) (s_Log : ByteArray) (s_Map : ByteArray) : Option Bool := gq16.F (fun y0 => some y0) s_Size s_Log s_Map
def gq16.out : Bool → CRes := fun a => ⟨encL SV.enc [.one (.bool)] (a, ()), [encL SC.enc [] ()]⟩
def gq16.ps : List PS := [.val [none, none, none]]
def gq16.sA : List SA := [.v (.agg [.int .i64, .str, .str])]
def gq16.fi : FI := FIs gq16.sA (Bool) (fun t => gq16 t.1.1 t.1.2.1 t.1.2.2.1) gq16.out gq16.ps
def gq16.E : Env := ⟨tt, lkF [(30, gq30.fi), (31, gq31.fi)], 14, 0, [], [], []⟩
theorem gq16.hok (hE : EOk Tryd.prog (gq16.E)) : HintOk Tryd.prog gq16.E (bodyOf Tryd.f16) (.a) := HintOk.n1 (Q := True) (by kernel_rfl) trivial
theorem gq16.hE : EOk Tryd.prog (gq16.E) := EOk.of ttOk (⟨gq30.fok, ⟨gq31.fok, trivial⟩⟩)
theorem gq16.fok : FOk Tryd.prog 16 gq16.fi :=
 fokS (E := gq16.E) (wy := ⟨[[none]], [[]], []⟩) (h := (fun gs => .a)) (G := fun t g => gq16.F (fun y0 => g y0) t.1.1 t.1.2.1 t.1.2.2.1) (by kernel_rfl) gq16.hE Tryd.func16 (by kernel_rfl) rfl (Nat.le_refl _) (fun t => HintOk.n1 (by kernel_rfl) (gq16.hok gq16.hE)) (fun t g => gq16.F_nat g (fun y0 => some y0) _ _ _) (fun t => by kernel_rfl)
theorem itoa_ex : ∃ f : Int → ByteArray, f = (fun n => ⟨(Lib.decDigits n.toNat).toArray⟩) := ⟨_, rfl⟩
noncomputable def itoaS : Int → ByteArray := Classical.choose itoa_ex
theorem itoaS_eq (n : Int) : itoaS n = ⟨(Lib.decDigits n.toNat).toArray⟩ := congrFun (Classical.choose_spec itoa_ex) n
noncomputable def gq26.F {R : Type} (kk : ByteArray → Option R) (n : Int) : Option R := grd (decide (0 ≤ n) && decide (n < 100)) <| kk (itoaS n)
theorem gq26_ex : ∃ f : Int → Option ByteArray, f = fun n => gq26.F (fun y0 => some y0) n := ⟨_, rfl⟩
noncomputable def gq26 : Int → Option ByteArray := Classical.choose gq26_ex
theorem gq26_eq (n : Int) : gq26 n = gq26.F (fun y0 => some y0) n := congrFun (Classical.choose_spec gq26_ex) n
def gq26.out : (ByteArray) → CRes := fun a => ⟨encL SV.enc [.one (.str)] (a, ()), [encL SC.enc [] ()]⟩
def gq26.ps : List PS := [.val [none]]
def gq26.sA : List SA := [.v (.one (.int .i64))]
noncomputable def gq26.fi : FI := FIs gq26.sA (ByteArray) (fun t => gq26 t.1) gq26.out gq26.ps
theorem gq26.fok : FOk Tryd.prog 26 gq26.fi := by
 refine fok_ext ⟨_, _, Tryd.func26, by kernel_rfl, rfl⟩ (by kernel_rfl) (fun a => [.str a]) (fun a => by kernel_rfl) (fun a => by kernel_rfl) (fun t a h w => ?_)
 obtain ⟨n, u⟩ := t
 have h' : grd (decide (0 ≤ n) && decide (n < 100)) (some (itoaS n)) = some a := (gq26_eq n).symm.trans h
 cases hg : decide (0 ≤ n) && decide (n < 100) with
 | false => rw [hg] at h'; cases h'
 | true =>
  rw [hg] at h'
  obtain rfl := Option.some.inj h'
  rw [Bool.and_eq_true, decide_eq_true_iff, decide_eq_true_iff] at hg
  rw [itoaS_eq]
  have := Any.strconv_Itoa_small Tryd.lays171 n.toNat ((Int.toNat_lt hg.1).2 hg.2) w
  rw [Int.toNat_of_nonneg hg.1] at this
  refine this.mono ?_
  rintro e w' ⟨rfl, rfl⟩
  exact ⟨rfl, RowKit.Below.refl _ _⟩
def gq32.l1 {R : Type} (kke0 : List Int → Option R) : Nat → ByteArray → Int → Int → List Int → Option R
 | 0, _, _, _, _ => none
 | n + 1, s, i, i1, out =>
  cond (decide (i1 < i)) (
   grd (gIx i1 (ByteArray.size s)) <|
   grd (gSh (4 : Int)) <|
   grd (gIx (iShr .u8 (byteAt s i1) (4 : Int)) (ByteArray.size (⟨#[48, 49, 50, 51, 52, 53, 54, 55, 56, 57, 97, 98, 99, 100, 101, 102]⟩ : ByteArray))) <|
   grd (gIx i1 (ByteArray.size s)) <|
   grd (gIx (iAnd .u8 (byteAt s i1) (15 : Int)) (ByteArray.size (⟨#[48, 49, 50, 51, 52, 53, 54, 55, 56, 57, 97, 98, 99, 100, 101, 102]⟩ : ByteArray))) <|
   grd (gRm (((List.length out) + (List.length ([byteAt (⟨#[48, 49, 50, 51, 52, 53, 54, 55, 56, 57, 97, 98, 99, 100, 101, 102]⟩ : ByteArray) (iShr .u8 (byteAt s i1) (4 : Int)), byteAt (⟨#[48, 49, 50, 51, 52, 53, 54, 55, 56, 57, 97, 98, 99, 100, 101, 102]⟩ : ByteArray) (iAnd .u8 (byteAt s i1) (15 : Int))]))) * 1)) <|
   gq32.l1 kke0 n s i (IntKind.wrap .i64 (i1 + (1 : Int))) (out ++ ([byteAt (⟨#[48, 49, 50, 51, 52, 53, 54, 55, 56, 57, 97, 98, 99, 100, 101, 102]⟩ : ByteArray) (iShr .u8 (byteAt s i1) (4 : Int)), byteAt (⟨#[48, 49, 50, 51, 52, 53, 54, 55, 56, 57, 97, 98, 99, 100, 101, 102]⟩ : ByteArray) (iAnd .u8 (byteAt s i1) (15 : Int))]))) (kke0 out)
theorem gq32.l1_nat {R S : Type} (g : R → Option S) (kke0 : List Int → Option R) : ∀ n s i i1 out, gq32.l1 (fun y0 => (kke0 y0).bind g) n s i i1 out = (gq32.l1 kke0 n s i i1 out).bind g := by
 intro n
 induction n with
 | zero => intros; rfl
 | succ n ih => intros; simp only [gq32.l1, grd_bind, cnd_bind, bnd_bind, non_bind, ih]
def gq32.F {R : Type} (kk : ByteArray → Option R) (s : ByteArray) : Option R :=
 gq32.l1 (fun out => kk (strL out)) fuel s (ByteArray.size s : Int) (0 : Int) ([] : List Int)
theorem gq32.F_nat {R S : Type} (g : R → Option S) (kk : ByteArray → Option R) (s) : gq32.F (fun y0 => (kk y0).bind g) s = (gq32.F kk s).bind g := by
 simp only [gq32.F, grd_bind, cnd_bind, bnd_bind, non_bind, ← gq32.l1_nat]
def gq32 (s : ByteArray) : Option ByteArray := gq32.F (fun y0 => some y0) s
def gq32.out : ByteArray → CRes := fun a => ⟨encL SV.enc [.one (.str)] (a, ()), [encL SC.enc [] ()]⟩
def gq32.ps : List PS := [.val [none]]
def gq32.sA : List SA := [.v (.one (.str))]
def gq32.fi : FI := FIs gq32.sA (ByteArray) (fun t => gq32 t.1) gq32.out gq32.ps
def gq32.E : Env := ⟨tt, lkF [], 27, 0, [], [], []⟩
def gq32.sh1 : SK := ⟨[.v (.one (.str)), .v (.one (.slo 0)), .v (.one (.int .i64)), .v (.one (.int .i64))], [.arr (.int .u8) [] true]⟩
def gq32.sh1e0 : SK := ⟨[.v (.one (.slo 0))], [.arr (.int .u8) [] true]⟩
def gq32.ko1 : Ex → List CastAt × List Nat
 | .nrm => ([], [])
 | .ret => ([], [])
 | .ext i => cond (Nat.beq i 0) ([], [3]) ([], [])
def gq32.G1 (n : Nat) (R : Type) (t : gq32.sh1.T) (K : Ex → Kp → Option R) : Option R := gq32.l1 (fun y0 => K (.ext 0) (SK.enc gq32.sh1e0 (((), ()), (y0, ())))) n t.1.1 t.1.2.2.1 t.1.2.2.2.1 t.2.1
def gq32.S1 : Sum := ⟨([], [0, 3, 7, 8]), sumF gq32.sh1 (gq32.G1 fuel), gq32.ko1⟩
theorem gq32.ok1 (hE : EOk Tryd.prog (gq32.E)) : SumOk Tryd.prog gq32.E (cB (cR (cL (cR (cR (bodyOf Tryd.f32)))))) (gq32.S1) := by
 have hh : HintOk Tryd.prog gq32.E (cB (cB (cR (cL (cR (cR (bodyOf Tryd.f32))))))) (.a) := HintOk.n1 (Q := True) (by kernel_rfl) trivial
 have h := loopS (kin := ([], [0, 3, 7, 8])) (kout := gq32.ko1) (sh := gq32.sh1) (F := gq32.G1) (ops_ok (hE.gv _)) (by kernel_rfl) hh (fun _ _ _ => rfl) (fun n R t K => by kernel_rfl) fuel
 exact HintOk.n1 (c := (cB (cR (cL (cR (cR (bodyOf Tryd.f32))))))) (h := .s (gq32.S1)) (P := Tryd.prog) (E := gq32.E) (by kernel_rfl) h
theorem gq32.hok (hE : EOk Tryd.prog (gq32.E)) : HintOk Tryd.prog gq32.E (bodyOf Tryd.f32) (.n (.a) (.n (.a) (.n (.n (.a) (.b (.s (gq32.S1)))) (.a)))) := HintOk.n1 (Q := (True) ∧ ((True) ∧ (((True) ∧ (SumOk Tryd.prog gq32.E (cB (cR (cL (cR (cR (bodyOf Tryd.f32)))))) (gq32.S1))) ∧ (True)))) (by kernel_rfl) ⟨trivial, ⟨trivial, ⟨⟨trivial, (gq32.ok1 hE)⟩, trivial⟩⟩⟩
theorem gq32.hE : EOk Tryd.prog (gq32.E) := EOk.of ttOk (trivial)
theorem gq32.fok : FOk Tryd.prog 32 gq32.fi :=
 fokS (E := gq32.E) (wy := ⟨[[none]], [[]], []⟩) (h := (fun gs => .n (.a) (.n (.a) (.n (.n (.a) (.b (.s (gq32.S1)))) (.a))))) (G := fun t g => gq32.F (fun y0 => g y0) t.1) (by kernel_rfl) gq32.hE Tryd.func32 (by kernel_rfl) rfl (Nat.le_refl _) (fun t => HintOk.n1 (by kernel_rfl) (gq32.hok gq32.hE)) (fun t g => gq32.F_nat g (fun y0 => some y0) _) (fun t => by kernel_rfl)
def gq17.F {R : Type} (kk : ByteArray → Option R) (s_Size : Int) (s_Log : ByteArray) (s_Map : ByteArray) : Option R :=
 (gq26 s_Size).bind fun r =>
 grd (gCat (⟨#[115, 105, 122, 101, 32]⟩ : ByteArray) r) <|
 grd (gCat ((⟨#[115, 105, 122, 101, 32]⟩ : ByteArray) ++ r) (⟨#[32, 108, 111, 103, 32]⟩ : ByteArray)) <|
 (gq32 s_Log).bind fun r1 =>
 grd (gCat (((⟨#[115, 105, 122, 101, 32]⟩ : ByteArray) ++ r) ++ (⟨#[32, 108, 111, 103, 32]⟩ : ByteArray)) r1) <|
 grd (gCat ((((⟨#[115, 105, 122, 101, 32]⟩ : ByteArray) ++ r) ++ (⟨#[32, 108, 111, 103, 32]⟩ : ByteArray)) ++ r1) (⟨#[32, 109, 97, 112, 32]⟩ : ByteArray)) <|
 (gq32 s_Map).bind fun r2 =>
 grd (gCat (((((⟨#[115, 105, 122, 101, 32]⟩ : ByteArray) ++ r) ++ (⟨#[32, 108, 111, 103, 32]⟩ : ByteArray)) ++ r1) ++ (⟨#[32, 109, 97, 112, 32]⟩ : ByteArray)) r2) <|
 kk ((((((⟨#[115, 105, 122, 101, 32]⟩ : ByteArray) ++ r) ++ (⟨#[32, 108, 111, 103, 32]⟩ : ByteArray)) ++ r1) ++ (⟨#[32, 109, 97, 112, 32]⟩ : ByteArray)) ++ r2)
theorem gq17.F_nat {R S : Type} (g : R → Option S) (kk : ByteArray → Option R) (s_Size s_Log s_Map) : gq17.F (fun y0 => (kk y0).bind g) s_Size s_Log s_Map = (gq17.F kk s_Size s_Log s_Map).bind g := by
 simp only [gq17.F, grd_bind, cnd_bind, bnd_bind, non_bind]
def gq17 (s_Size : Int) (s_Log : ByteArray) (s_Map : ByteArray) : Option ByteArray := gq17.F (fun y0 => some y0) s_Size s_Log s_Map
def gq17.out : ByteArray → CRes := fun a => ⟨encL SV.enc [.one (.str)] (a, ()), [encL SC.enc [] ()]⟩
def gq17.ps : List PS := [.val [none, none, none]]
def gq17.sA : List SA := [.v (.agg [.int .i64, .str, .str])]
def gq17.fi : FI := FIs gq17.sA (ByteArray) (fun t => gq17 t.1.1 t.1.2.1 t.1.2.2.1) gq17.out gq17.ps
def gq17.E : Env := ⟨tt, lkF [(26, gq26.fi), (32, gq32.fi)], 17, 0, [], [], []⟩
theorem gq17.hok (hE : EOk Tryd.prog (gq17.E)) : HintOk Tryd.prog gq17.E (bodyOf Tryd.f17) (.a) := HintOk.n1 (Q := True) (by kernel_rfl) trivial
theorem gq17.hE : EOk Tryd.prog (gq17.E) := EOk.of ttOk (⟨gq26.fok, ⟨gq32.fok, trivial⟩⟩)
theorem gq17.fok : FOk Tryd.prog 17 gq17.fi :=
 fokS (E := gq17.E) (wy := ⟨[[none]], [[]], []⟩) (h := (fun gs => .a)) (G := fun t g => gq17.F (fun y0 => g y0) t.1.1 t.1.2.1 t.1.2.2.1) (by kernel_rfl) gq17.hE Tryd.func17 (by kernel_rfl) rfl (Nat.le_refl _) (fun t => HintOk.n1 (by kernel_rfl) (gq17.hok gq17.hE)) (fun t g => gq17.F_nat g (fun y0 => some y0) _ _ _) (fun t => by kernel_rfl)
def gq5.F {R : Type} (kk : Int → ByteArray → ByteArray → Int → Option R) (t_ : ByteArray) : Option R :=
 (gq12 [t_]).bind fun r =>
 cond (!r) (kk (0 : Int) ByteArray.empty ByteArray.empty (2 : Int)) (
  (gq13 t_ (⟨#[32]⟩ : ByteArray)).bind fun r1 =>
  cond ((List.length r1 : Int) != (6 : Int)) (kk (0 : Int) ByteArray.empty ByteArray.empty (3 : Int)) (
   grd (gIx (1 : Int) (List.length r1)) <|
   (gq14 (rdE (.str : Kd) r1 (Int.toNat (1 : Int)))).bind fun r2 =>
   grd (gIx (3 : Int) (List.length r1)) <|
   (gq15 (rdE (.str : Kd) r1 (Int.toNat (3 : Int)))).bind fun r3 =>
   grd (gIx (5 : Int) (List.length r1)) <|
   (gq15 (rdE (.str : Kd) r1 (Int.toNat (5 : Int)))).bind fun r4 =>
   (gq16 r2.1 r3.1 r4.1).bind fun r5 =>
   cond (!r5) (kk (0 : Int) ByteArray.empty ByteArray.empty (3 : Int)) (
    (gq17 r2.1 r3.1 r4.1).bind fun r6 =>
    cond (!(sEq r6 t_)) (kk (0 : Int) ByteArray.empty ByteArray.empty (3 : Int)) (kk r2.1 r3.1 r4.1 (0 : Int)))))
theorem gq5.F_nat {R S : Type} (g : R → Option S) (kk : Int → ByteArray → ByteArray → Int → Option R) (t_) : gq5.F (fun y0 y1 y2 y3 => (kk y0 y1 y2 y3).bind g) t_ = (gq5.F kk t_).bind g := by
 simp only [gq5.F, grd_bind, cnd_bind, bnd_bind, non_bind]
def gq5 (t_ : ByteArray) : Option (Int × ByteArray × ByteArray × Int) := gq5.F (fun y0 y1 y2 y3 => some (y0, y1, y2, y3)) t_
def gq5.out : (Int × ByteArray × ByteArray × Int) → CRes := fun a => ⟨encL SV.enc [.agg [.int .i64, .str, .str], .one (.int .i64)] ((a.1, a.2.1, a.2.2.1, ()), a.2.2.2, ()), [encL SC.enc [] ()]⟩
def gq5.ps : List PS := [.val [none]]
def gq5.sA : List SA := [.v (.one (.str))]
def gq5.fi : FI := FIs gq5.sA (Int × ByteArray × ByteArray × Int) (fun t => gq5 t.1) gq5.out gq5.ps
def gq5.E : Env := ⟨tt, lkF [(12, gq12.fi), (13, gq13.fi), (14, gq14.fi), (15, gq15.fi), (16, gq16.fi), (17, gq17.fi)], 53, 0, [], [], []⟩
theorem gq5.hok (hE : EOk Tryd.prog (gq5.E)) : HintOk Tryd.prog gq5.E (bodyOf Tryd.f5) (.a) := HintOk.n1 (Q := True) (by kernel_rfl) trivial
theorem gq5.hE : EOk Tryd.prog (gq5.E) := EOk.of ttOk (⟨gq12.fok, ⟨gq13.fok, ⟨gq14.fok, ⟨gq15.fok, ⟨gq16.fok, ⟨gq17.fok, trivial⟩⟩⟩⟩⟩⟩)
theorem gq5.fok : FOk Tryd.prog 5 gq5.fi :=
 fokS (E := gq5.E) (wy := ⟨[[none, none, none], [none]], [[]], []⟩) (h := (fun gs => .a)) (G := fun t g => gq5.F (fun y0 y1 y2 y3 => g (y0, y1, y2, y3)) t.1) (by kernel_rfl) gq5.hE Tryd.func5 (by kernel_rfl) rfl (Nat.le_refl _) (fun t => HintOk.n1 (by kernel_rfl) (gq5.hok gq5.hE)) (fun t g => gq5.F_nat g (fun y0 y1 y2 y3 => some (y0, y1, y2, y3)) _) (fun t => by kernel_rfl)
def gq6.F {R : Type} (kk : Bool → Option R) (a_Size : Int) (a_Log : ByteArray) (a_Map : ByteArray) (b_Size : Int) (b_Log : ByteArray) (b_Map : ByteArray) : Option R :=
 cond (a_Size != b_Size) (kk false) (cond (!(sEq a_Log b_Log)) (kk false) (cond (!(sEq a_Map b_Map)) (kk false) (kk true)))
theorem gq6.F_nat {R S : Type} (g : R → Option S) (kk : Bool → Option R) (a_Size a_Log a_Map b_Size b_Log b_Map) : gq6.F (fun y0 => (kk y0).bind g) a_Size a_Log a_Map b_Size b_Log b_Map = (gq6.F kk a_Size a_Log a_Map b_Size b_Log b_Map).bind g := by
 simp only [gq6.F, grd_bind, cnd_bind, bnd_bind, non_bind]
def gq6 (a_Size : Int) (a_Log : ByteArray) (a_Map : ByteArray) (b_Size : Int) (b_Log : ByteArray) (b_Map : ByteArray) : Option Bool := gq6.F (fun y0 => some y0) a_Size a_Log a_Map b_Size b_Log b_Map
def gq6.out : Bool → CRes := fun a => ⟨encL SV.enc [.one (.bool)] (a, ()), [encL SC.enc [] (), encL SC.enc [] ()]⟩
def gq6.ps : List PS := [.val [none, none, none], .val [none, none, none]]
def gq6.sA : List SA := [.v (.agg [.int .i64, .str, .str]), .v (.agg [.int .i64, .str, .str])]
def gq6.fi : FI := FIs gq6.sA (Bool) (fun t => gq6 t.1.1 t.1.2.1 t.1.2.2.1 t.2.1.1 t.2.1.2.1 t.2.1.2.2.1) gq6.out gq6.ps
def gq6.E : Env := ⟨tt, lkF [], 20, 0, [], [], []⟩
theorem gq6.hok (hE : EOk Tryd.prog (gq6.E)) : HintOk Tryd.prog gq6.E (bodyOf Tryd.f6) (.a) := HintOk.n1 (Q := True) (by kernel_rfl) trivial
theorem gq6.hE : EOk Tryd.prog (gq6.E) := EOk.of ttOk (trivial)
theorem gq6.fok : FOk Tryd.prog 6 gq6.fi :=
 fokS (E := gq6.E) (wy := ⟨[[none]], [[], []], []⟩) (h := (fun gs => .a)) (G := fun t g => gq6.F (fun y0 => g y0) t.1.1 t.1.2.1 t.1.2.2.1 t.2.1.1 t.2.1.2.1 t.2.1.2.2.1) (by kernel_rfl) gq6.hE Tryd.func6 (by kernel_rfl) rfl (Nat.le_refl _) (fun t => HintOk.n1 (by kernel_rfl) (gq6.hok gq6.hE)) (fun t g => gq6.F_nat g (fun y0 => some y0) _ _ _ _ _ _) (fun t => by kernel_rfl)
def gq3.F {R : Type} (kk : Bool → Option R) (aT : ByteArray) : Option R :=
 cond (decide ((ByteArray.size aT : Int) > (1048576 : Int))) (kk true) (
  (gq4 aT).bind fun r =>
  (gq5 aT).bind fun r1 =>
  (gq6 r1.1 r1.2.1 r1.2.2.1 r.1 r.2.1 r.2.2.1).bind fun r2 =>
  cond (!r2) (kk false) (cond (r1.2.2.2 != r.2.2.2) (kk false) (kk true)))
theorem gq3.F_nat {R S : Type} (g : R → Option S) (kk : Bool → Option R) (aT) : gq3.F (fun y0 => (kk y0).bind g) aT = (gq3.F kk aT).bind g := by
 simp only [gq3.F, grd_bind, cnd_bind, bnd_bind, non_bind]
def gq3 (aT : ByteArray) : Option Bool := gq3.F (fun y0 => some y0) aT
def gq3.out : Bool → CRes := fun a => ⟨encL SV.enc [.one (.bool)] (a, ()), [encL SC.enc [] ()]⟩
def gq3.ps : List PS := [.val [none]]
def gq3.sA : List SA := [.v (.one (.str))]
def gq3.fi : FI := FIs gq3.sA (Bool) (fun t => gq3 t.1) gq3.out gq3.ps
def gq3.E : Env := ⟨tt, lkF [(4, gq4.fi), (5, gq5.fi), (6, gq6.fi)], 29, 0, [], [], []⟩
theorem gq3.hok (hE : EOk Tryd.prog (gq3.E)) : HintOk Tryd.prog gq3.E (bodyOf Tryd.f3) (.a) := HintOk.n1 (Q := True) (by kernel_rfl) trivial
theorem gq3.hE : EOk Tryd.prog (gq3.E) := EOk.of ttOk (⟨gq4.fok, ⟨gq5.fok, ⟨gq6.fok, trivial⟩⟩⟩)
theorem gq3.fok : FOk Tryd.prog 3 gq3.fi :=
 fokS (E := gq3.E) (wy := ⟨[[none]], [[]], []⟩) (h := (fun gs => .a)) (G := fun t g => gq3.F (fun y0 => g y0) t.1) (by kernel_rfl) gq3.hE Tryd.func3 (by kernel_rfl) rfl (Nat.le_refl _) (fun t => HintOk.n1 (by kernel_rfl) (gq3.hok gq3.hE)) (fun t g => gq3.F_nat g (fun y0 => some y0) _) (fun t => by kernel_rfl)
end
end Go.Proofs.YtdhifkdijlghdaaDoorA
