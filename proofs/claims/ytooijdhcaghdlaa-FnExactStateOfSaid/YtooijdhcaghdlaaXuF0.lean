/-
  Functions of the program, and that the small machine's runs are these. No condition.
  Printed by wip/amp/main.py (a session's own program) out of Lean's print of the program; Lean's kernel checks it.
-/
import Derived.Test.YtooijdhcaghdlaaXuT
namespace Go.Proofs.YtooijdhcaghdlaaA
open Go
noncomputable section
set_option linter.unusedVariables false
set_option linter.unusedSimpArgs false
set_option maxRecDepth 100000
def gq20.l1 {R : Type} (kke0 : Int → Option R) (kkr : Int → Option R) : Nat → List ByteArray → Int → Int → Option R
 | 0, _, _, _ => none
 | n + 1, a, left, i =>
  cond (decide (i < (List.length a : Int))) (
   grd (gIx i (List.length a)) <|
   cond (decide ((IntKind.wrap .i64 (left - (ByteArray.size (rdE (.str : Kd) a (Int.toNat i)) : Int))) < (0 : Int))) (kkr (-1 : Int)) (
    gq20.l1 kke0 kkr n a (IntKind.wrap .i64 (left - (ByteArray.size (rdE (.str : Kd) a (Int.toNat i)) : Int))) (IntKind.wrap .i64 (i + (1 : Int))))) (kke0 left)
theorem gq20.l1_nat {R S : Type} (g : R → Option S) (kke0 : Int → Option R) (kkr : Int → Option R) : ∀ n a left i, gq20.l1 (fun y0 => (kke0 y0).bind g) (fun y0 => (kkr y0).bind g) n a left i = (gq20.l1 kke0 kkr n a left i).bind g := by
 intro n
 induction n with
 | zero => intros; rfl
 | succ n ih => intros; simp only [gq20.l1, grd_bind, cnd_bind, bnd_bind, non_bind, ih]
def gq20.F {R : Type} (kk : Int → Option R) (a : List ByteArray) (left : Int) : Option R :=
 cond (decide ((IntKind.wrap .i64 (left - (List.length a : Int))) < (0 : Int))) (kk (-1 : Int)) (
  gq20.l1 (fun left1 => kk left1) (fun i => kk i) fuel a (IntKind.wrap .i64 (left - (List.length a : Int))) (0 : Int))
theorem gq20.F_nat {R S : Type} (g : R → Option S) (kk : Int → Option R) (a left) : gq20.F (fun y0 => (kk y0).bind g) a left = (gq20.F kk a left).bind g := by
 simp only [gq20.F, grd_bind, cnd_bind, bnd_bind, non_bind, ← gq20.l1_nat]
def gq20 (a : List ByteArray) (left : Int) : Option Int := gq20.F (fun y0 => some y0) a left
def gq20.out : Int → CRes := fun a => ⟨encL SV.enc [.one (.int .i64)] (a, ()), [encL SC.enc [] (), encL SC.enc [] ()]⟩
def gq20.ps : List PS := [.val [some (.str, false)], .val [none]]
def gq20.sA : List SA := [.v (.one (.slv [] .str)), .v (.one (.int .i64))]
def gq20.fi : FI := FIs gq20.sA (Int) (fun t => gq20 t.1 t.2.1) gq20.out gq20.ps
def gq20.E : Env := ⟨tt, lkF [], 28, 0, [], []⟩
def gq20.sh1 : SK := ⟨[.v (.one (.slv [1] .str)), .v (.one (.int .i64)), .v (.one (.int .i64))], []⟩
def gq20.sh1e0 : SK := ⟨[.v (.one (.int .i64))], []⟩
def gq20.sh1r : SK := ⟨[.v (.one (.int .i64))], []⟩
def gq20.ko1 : Ex → List CastAt × List Nat
 | .nrm => ([], [])
 | .ret => ([], [4])
 | .ext i => cond (Nat.beq i 0) ([], [1]) ([], [])
def gq20.G1 (n : Nat) (R : Type) (t : gq20.sh1.T) (K : Ex → Kp → Option R) : Option R := gq20.l1 (fun y0 => K (.ext 0) (SK.enc gq20.sh1e0 ((y0, ()), ()))) (fun y0 => K .ret (SK.enc gq20.sh1r ((y0, ()), ()))) n t.1.1 t.1.2.1 t.1.2.2.1
def gq20.S1 : Sum := ⟨([], [0, 1, 5]), sumF gq20.sh1 (gq20.G1 fuel), gq20.ko1⟩
theorem gq20.ok1 (hE : EOk Try.prog (gq20.E)) : SumOk Try.prog gq20.E (cB (cR (cL (cR (cR (cR (bodyOf Try.f20))))))) (gq20.S1) := by
 have hh : HintOk Try.prog gq20.E (cB (cB (cR (cL (cR (cR (cR (bodyOf Try.f20)))))))) (.a) := HintOk.n1 (Q := True) (by kernel_rfl) trivial
 have h := loopS (kin := ([], [0, 1, 5])) (kout := gq20.ko1) (sh := gq20.sh1) (F := gq20.G1) (ops_ok (hE.gv _)) (by kernel_rfl) hh (fun _ _ _ => rfl) (fun n R t K => by kernel_rfl) fuel
 exact HintOk.n1 (c := (cB (cR (cL (cR (cR (cR (bodyOf Try.f20)))))))) (h := .s (gq20.S1)) (P := Try.prog) (E := gq20.E) (by kernel_rfl) h
theorem gq20.hok (hE : EOk Try.prog (gq20.E)) : HintOk Try.prog gq20.E (bodyOf Try.f20) (.n (.a) (.n (.a) (.n (.a) (.n (.n (.a) (.b (.s (gq20.S1)))) (.a))))) := HintOk.n1 (Q := (True) ∧ ((True) ∧ ((True) ∧ (((True) ∧ (SumOk Try.prog gq20.E (cB (cR (cL (cR (cR (cR (bodyOf Try.f20))))))) (gq20.S1))) ∧ (True))))) (by kernel_rfl) ⟨trivial, ⟨trivial, ⟨trivial, ⟨⟨trivial, (gq20.ok1 hE)⟩, trivial⟩⟩⟩⟩
theorem gq20.hE : EOk Try.prog (gq20.E) := EOk.of ttOk (trivial)
theorem gq20.fok : FOk Try.prog 20 gq20.fi :=
 fokS (E := gq20.E) (wy := ⟨[[none]], [[], []], []⟩) (h := (fun gs => .n (.a) (.n (.a) (.n (.a) (.n (.n (.a) (.b (.s (gq20.S1)))) (.a)))))) (G := fun t g => gq20.F (fun y0 => g y0) t.1 t.2.1) (by kernel_rfl) gq20.hE Try.func20 (by kernel_rfl) rfl (Nat.le_refl _) (fun t => HintOk.n1 (by kernel_rfl) (gq20.hok gq20.hE)) (fun t g => gq20.F_nat g (fun y0 => some y0) _ _) (fun t => by kernel_rfl)
def gq41.l1 {R : Type} (rc : ByteArray → ByteArray → Int → List (El kk8eb) → Int → Option Int) (kke0 : Int → Option R) (kkr : Int → Option R) : Nat → List (El kk8eb) → Int → Int → Option R
 | 0, _, _, _ => none
 | n + 1, a, left, i =>
  cond (decide (i < (List.length a : Int))) (
   grd (gIx i (List.length a)) <|
   (rc ((Tree.val (rdE kk8eb a (Int.toNat i))).1) ((Tree.val (rdE kk8eb a (Int.toNat i))).2.1) ((Tree.val (rdE kk8eb a (Int.toNat i))).2.2) (Tree.kids (rdE kk8eb a (Int.toNat i))) left).bind fun r =>
   cond (decide (r < (0 : Int))) (kkr (-1 : Int)) (gq41.l1 rc kke0 kkr n a r (IntKind.wrap .i64 (i + (1 : Int))))) (kke0 left)
theorem gq41.l1_nat {R S : Type} (g : R → Option S) (rc : ByteArray → ByteArray → Int → List (El kk8eb) → Int → Option Int) (kke0 : Int → Option R) (kkr : Int → Option R) : ∀ n a left i, gq41.l1 rc (fun y0 => (kke0 y0).bind g) (fun y0 => (kkr y0).bind g) n a left i = (gq41.l1 rc kke0 kkr n a left i).bind g := by
 intro n
 induction n with
 | zero => intros; rfl
 | succ n ih => intros; simp only [gq41.l1, grd_bind, cnd_bind, bnd_bind, non_bind, ih]
def gq41.F {R : Type} (rc : ByteArray → ByteArray → Int → List (El kk8eb) → Int → Option Int) (kk : Int → Option R) (a : List (El kk8eb)) (left : Int) : Option R :=
 cond (decide ((IntKind.wrap .i64 (left - (List.length a : Int))) < (0 : Int))) (kk (-1 : Int)) (
  gq41.l1 rc (fun left1 => kk left1) (fun i => kk i) fuel a (IntKind.wrap .i64 (left - (List.length a : Int))) (0 : Int))
theorem gq41.F_nat {R S : Type} (g : R → Option S) (rc : ByteArray → ByteArray → Int → List (El kk8eb) → Int → Option Int) (kk : Int → Option R) (a left) : gq41.F rc (fun y0 => (kk y0).bind g) a left = (gq41.F rc kk a left).bind g := by
 simp only [gq41.F, grd_bind, cnd_bind, bnd_bind, non_bind, ← gq41.l1_nat]
def gq41 (rc : ByteArray → ByteArray → Int → List (El kk8eb) → Int → Option Int) (a : List (El kk8eb)) (left : Int) : Option Int := gq41.F rc (fun y0 => some y0) a left
def gq21.F {R : Type} (rc : ByteArray → ByteArray → Int → List (El kk8eb) → Int → Option Int) (kk : Int → Option R) (a_Key : ByteArray) (a_Value : ByteArray) (a_At : Int) (a_Kids : List (El kk8eb)) (left : Int) : Option R :=
 cond (decide ((IntKind.wrap .i64 (left - (ByteArray.size a_Key : Int))) < (0 : Int))) (kk (-1 : Int)) (
  cond (decide ((IntKind.wrap .i64 ((IntKind.wrap .i64 (left - (ByteArray.size a_Key : Int))) - (ByteArray.size a_Value : Int))) < (0 : Int))) (kk (-1 : Int)) (
   (gq41 rc a_Kids (IntKind.wrap .i64 ((IntKind.wrap .i64 (left - (ByteArray.size a_Key : Int))) - (ByteArray.size a_Value : Int)))).bind fun r =>
   cond (decide (r < (0 : Int))) (kk (-1 : Int)) (kk r)))
theorem gq21.F_nat {R S : Type} (g : R → Option S) (rc : ByteArray → ByteArray → Int → List (El kk8eb) → Int → Option Int) (kk : Int → Option R) (a_Key a_Value a_At a_Kids left) : gq21.F rc (fun y0 => (kk y0).bind g) a_Key a_Value a_At a_Kids left = (gq21.F rc kk a_Key a_Value a_At a_Kids left).bind g := by
 simp only [gq21.F, grd_bind, cnd_bind, bnd_bind, non_bind]
def gq21 : Nat → ByteArray → ByteArray → Int → List (El kk8eb) → Int → Option Int
 | 0, _, _, _, _, _ => none
 | fu + 1, a_Key, a_Value, a_At, a_Kids, left => gq21.F (gq21 fu) (fun y0 => some y0) a_Key a_Value a_At a_Kids left
theorem gq21_nat {S : Type} (fu : Nat) (g : Int → Option S) (a_Key : ByteArray) (a_Value : ByteArray) (a_At : Int) (a_Kids : List (El kk8eb)) (left : Int) : gq21.F (gq21 fu) (fun y0 => g y0) a_Key a_Value a_At a_Kids left = (gq21 (fu + 1) a_Key a_Value a_At a_Kids left).bind g := gq21.F_nat g (gq21 fu) (fun y0 => some y0) a_Key a_Value a_At a_Kids left
def gq21.out : Int → CRes := fun a => ⟨encL SV.enc [.one (.int .i64)] (a, ()), [encL SC.enc [] (), encL SC.enc [] ()]⟩
def gq21.ps : List PS := [.val [none, none, none, some (kk8eb, false)], .val [none]]
def gq21.sA : List SA := [.v (.agg [.str, .str, .int .i64, .slv [] kk8eb]), .v (.one (.int .i64))]
def gq21.fi (fu : Nat) : FI := FIs gq21.sA (Int) (fun t => gq21 fu t.1.1 t.1.2.1 t.1.2.2.1 t.1.2.2.2.1 t.2.1) gq21.out gq21.ps
def gq41.out : Int → CRes := fun a => ⟨encL SV.enc [.one (.int .i64)] (a, ()), [encL SC.enc [] (), encL SC.enc [] ()]⟩
def gq41.ps : List PS := [.val [some (kk8eb, false)], .val [none]]
def gq41.sA : List SA := [.v (.one (.slv [] kk8eb)), .v (.one (.int .i64))]
def gq41.fi (fu : Nat) : FI := FIs gq41.sA (Int) (fun t => gq41 (gq21 fu) t.1 t.2.1) gq41.out gq41.ps
def gq41.E (fu : Nat) : Env := ⟨tt, lkF [(21, gq21.fi fu)], 27, 0, [], []⟩
def gq41.sh1 : SK := ⟨[.v (.one (.slv [1] kk8eb)), .v (.one (.int .i64)), .v (.one (.int .i64))], []⟩
def gq41.sh1e0 : SK := ⟨[.v (.one (.int .i64))], []⟩
def gq41.sh1r : SK := ⟨[.v (.one (.int .i64))], []⟩
def gq41.ko1 : Ex → List CastAt × List Nat
 | .nrm => ([], [])
 | .ret => ([], [4])
 | .ext i => cond (Nat.beq i 0) ([], [1]) ([], [])
def gq41.G1 (fu : Nat) (n : Nat) (R : Type) (t : gq41.sh1.T) (K : Ex → Kp → Option R) : Option R := gq41.l1 (gq21 fu) (fun y0 => K (.ext 0) (SK.enc gq41.sh1e0 ((y0, ()), ()))) (fun y0 => K .ret (SK.enc gq41.sh1r ((y0, ()), ()))) n t.1.1 t.1.2.1 t.1.2.2.1
def gq41.S1 (fu : Nat) : Sum := ⟨([], [0, 1, 5]), sumF gq41.sh1 (gq41.G1 fu fuel), gq41.ko1⟩
theorem gq41.ok1 (fu : Nat) (hE : EOk Try.prog (gq41.E fu)) : SumOk Try.prog (gq41.E fu) (cB (cR (cL (cR (cR (cR (bodyOf Try.f41))))))) (gq41.S1 fu) := by
 have hh : HintOk Try.prog (gq41.E fu) (cB (cB (cR (cL (cR (cR (cR (bodyOf Try.f41)))))))) (.a) := HintOk.n1 (Q := True) (by kernel_rfl) trivial
 have h := loopS (kin := ([], [0, 1, 5])) (kout := gq41.ko1) (sh := gq41.sh1) (F := gq41.G1 fu) (ops_ok (hE.gv _)) (by kernel_rfl) hh (fun _ _ _ => rfl) (fun n R t K => by kernel_rfl) fuel
 exact HintOk.n1 (c := (cB (cR (cL (cR (cR (cR (bodyOf Try.f41)))))))) (h := .s (gq41.S1 fu)) (P := Try.prog) (E := (gq41.E fu)) (by kernel_rfl) h
theorem gq41.hok (fu : Nat) (hE : EOk Try.prog (gq41.E fu)) : HintOk Try.prog (gq41.E fu) (bodyOf Try.f41) (.n (.a) (.n (.a) (.n (.a) (.n (.n (.a) (.b (.s (gq41.S1 fu)))) (.a))))) := HintOk.n1 (Q := (True) ∧ ((True) ∧ ((True) ∧ (((True) ∧ (SumOk Try.prog (gq41.E fu) (cB (cR (cL (cR (cR (cR (bodyOf Try.f41))))))) (gq41.S1 fu))) ∧ (True))))) (by kernel_rfl) ⟨trivial, ⟨trivial, ⟨trivial, ⟨⟨trivial, (gq41.ok1 fu hE)⟩, trivial⟩⟩⟩⟩
theorem gq41.fok (fu : Nat) (ih : FOk Try.prog 21 (gq21.fi fu)) : FOk Try.prog 41 (gq41.fi fu) := by
 have hE : EOk Try.prog (gq41.E fu) := EOk.of ttOk (⟨ih, trivial⟩)
 exact fokS (E := gq41.E fu) (wy := ⟨[[none]], [[], []], []⟩) (h := (fun gs => .n (.a) (.n (.a) (.n (.a) (.n (.n (.a) (.b (.s (gq41.S1 fu)))) (.a)))))) (G := fun t g => gq41.F (gq21 fu) (fun y0 => g y0) t.1 t.2.1) (by kernel_rfl) hE Try.func41 (by kernel_rfl) rfl (Nat.le_refl _) (fun t => HintOk.n1 (by kernel_rfl) (gq41.hok fu hE)) (fun t g => gq41.F_nat g (gq21 fu) (fun y0 => some y0) _ _) (fun t => by kernel_rfl)
def gq21.E (fu : Nat) : Env := ⟨tt, lkF [(41, gq41.fi fu)], 26, 0, [], []⟩
theorem gq21.hok (fu : Nat) (hE : EOk Try.prog (gq21.E fu)) : HintOk Try.prog (gq21.E fu) (bodyOf Try.f21) (.a) := HintOk.n1 (Q := True) (by kernel_rfl) trivial
theorem gq21.fok0 : FOk Try.prog 21 (gq21.fi 0) := FOk.zero ⟨_, _, Try.func21, by kernel_rfl, rfl⟩ (fun _ => rfl)
theorem gq21.fok1 (fu : Nat) (ih : FOk Try.prog 21 (gq21.fi fu)) : FOk Try.prog 21 (gq21.fi (fu + 1)) := by
 have hE : EOk Try.prog (gq21.E fu) := EOk.of ttOk (⟨gq41.fok fu ih, trivial⟩)
 exact fokS (E := gq21.E fu) (wy := ⟨[[none]], [[], []], []⟩) (h := (fun gs => .a)) (G := fun t g => gq21.F (gq21 fu) (fun y0 => g y0) t.1.1 t.1.2.1 t.1.2.2.1 t.1.2.2.2.1 t.2.1) (by kernel_rfl) hE Try.func21 (by kernel_rfl) rfl (Nat.le_refl _) (fun t => HintOk.n1 (by kernel_rfl) (gq21.hok fu hE)) (fun t g => gq21_nat fu g t.1.1 t.1.2.1 t.1.2.2.1 t.1.2.2.2.1 t.2.1) (fun t => by kernel_rfl)
theorem gq21.fok (fu : Nat) : FOk Try.prog 21 (gq21.fi fu) := Nat.rec gq21.fok0 gq21.fok1 fu
def gq60.F {R : Type} (kk : Int → Option R) (a_Kind : Int) (a_Place : Int) (a_Value : ByteArray) (left : Int) : Option R :=
 cond (decide ((IntKind.wrap .i64 (left - (ByteArray.size a_Value : Int))) < (0 : Int))) (kk (-1 : Int)) (kk (IntKind.wrap .i64 (left - (ByteArray.size a_Value : Int))))
theorem gq60.F_nat {R S : Type} (g : R → Option S) (kk : Int → Option R) (a_Kind a_Place a_Value left) : gq60.F (fun y0 => (kk y0).bind g) a_Kind a_Place a_Value left = (gq60.F kk a_Kind a_Place a_Value left).bind g := by
 simp only [gq60.F, grd_bind, cnd_bind, bnd_bind, non_bind]
def gq60 (a_Kind : Int) (a_Place : Int) (a_Value : ByteArray) (left : Int) : Option Int := gq60.F (fun y0 => some y0) a_Kind a_Place a_Value left
def gq60.out : Int → CRes := fun a => ⟨encL SV.enc [.one (.int .i64)] (a, ()), [encL SC.enc [] (), encL SC.enc [] ()]⟩
def gq60.ps : List PS := [.val [none, none, none], .val [none]]
def gq60.sA : List SA := [.v (.agg [.int .i64, .int .i64, .str]), .v (.one (.int .i64))]
def gq60.fi : FI := FIs gq60.sA (Int) (fun t => gq60 t.1.1 t.1.2.1 t.1.2.2.1 t.2.1) gq60.out gq60.ps
def gq60.E : Env := ⟨tt, lkF [], 13, 0, [], []⟩
theorem gq60.hok (hE : EOk Try.prog (gq60.E)) : HintOk Try.prog gq60.E (bodyOf Try.f60) (.a) := HintOk.n1 (Q := True) (by kernel_rfl) trivial
theorem gq60.hE : EOk Try.prog (gq60.E) := EOk.of ttOk (trivial)
theorem gq60.fok : FOk Try.prog 60 gq60.fi :=
 fokS (E := gq60.E) (wy := ⟨[[none]], [[], []], []⟩) (h := (fun gs => .a)) (G := fun t g => gq60.F (fun y0 => g y0) t.1.1 t.1.2.1 t.1.2.2.1 t.2.1) (by kernel_rfl) gq60.hE Try.func60 (by kernel_rfl) rfl (Nat.le_refl _) (fun t => HintOk.n1 (by kernel_rfl) (gq60.hok gq60.hE)) (fun t g => gq60.F_nat g (fun y0 => some y0) _ _ _ _) (fun t => by kernel_rfl)
def gq42.F {R : Type} (kk : Int → Option R) (a_Id : Int) (a_Seq : Int) (a_Last_Kind : Int) (a_Last_Place : Int) (a_Last_Value : ByteArray) (left : Int) : Option R :=
 (gq60 a_Last_Kind a_Last_Place a_Last_Value left).bind fun r =>
 cond (decide (r < (0 : Int))) (kk (-1 : Int)) (kk r)
theorem gq42.F_nat {R S : Type} (g : R → Option S) (kk : Int → Option R) (a_Id a_Seq a_Last_Kind a_Last_Place a_Last_Value left) : gq42.F (fun y0 => (kk y0).bind g) a_Id a_Seq a_Last_Kind a_Last_Place a_Last_Value left = (gq42.F kk a_Id a_Seq a_Last_Kind a_Last_Place a_Last_Value left).bind g := by
 simp only [gq42.F, grd_bind, cnd_bind, bnd_bind, non_bind]
def gq42 (a_Id : Int) (a_Seq : Int) (a_Last_Kind : Int) (a_Last_Place : Int) (a_Last_Value : ByteArray) (left : Int) : Option Int := gq42.F (fun y0 => some y0) a_Id a_Seq a_Last_Kind a_Last_Place a_Last_Value left
def gq42.out : Int → CRes := fun a => ⟨encL SV.enc [.one (.int .i64)] (a, ()), [encL SC.enc [] (), encL SC.enc [] ()]⟩
def gq42.ps : List PS := [.val [none, none, none, none, none], .val [none]]
def gq42.sA : List SA := [.v (.agg [.int .i64, .int .i64, .int .i64, .int .i64, .str]), .v (.one (.int .i64))]
def gq42.fi : FI := FIs gq42.sA (Int) (fun t => gq42 t.1.1 t.1.2.1 t.1.2.2.1 t.1.2.2.2.1 t.1.2.2.2.2.1 t.2.1) gq42.out gq42.ps
def gq42.E : Env := ⟨tt, lkF [(60, gq60.fi)], 12, 0, [], []⟩
theorem gq42.hok (hE : EOk Try.prog (gq42.E)) : HintOk Try.prog gq42.E (bodyOf Try.f42) (.a) := HintOk.n1 (Q := True) (by kernel_rfl) trivial
theorem gq42.hE : EOk Try.prog (gq42.E) := EOk.of ttOk (⟨gq60.fok, trivial⟩)
theorem gq42.fok : FOk Try.prog 42 gq42.fi :=
 fokS (E := gq42.E) (wy := ⟨[[none]], [[], []], []⟩) (h := (fun gs => .a)) (G := fun t g => gq42.F (fun y0 => g y0) t.1.1 t.1.2.1 t.1.2.2.1 t.1.2.2.2.1 t.1.2.2.2.2.1 t.2.1) (by kernel_rfl) gq42.hE Try.func42 (by kernel_rfl) rfl (Nat.le_refl _) (fun t => HintOk.n1 (by kernel_rfl) (gq42.hok gq42.hE)) (fun t g => gq42.F_nat g (fun y0 => some y0) _ _ _ _ _ _) (fun t => by kernel_rfl)
def gq22.l1 {R : Type} (kke0 : Int → Option R) (kkr : Int → Option R) : Nat → List (El kkb2) → Int → Int → Option R
 | 0, _, _, _ => none
 | n + 1, a, left, i =>
  cond (decide (i < (List.length a : Int))) (
   grd (gIx i (List.length a)) <|
   (gq42 ((rdE kkb2 a (Int.toNat i)).1) ((rdE kkb2 a (Int.toNat i)).2.1) ((rdE kkb2 a (Int.toNat i)).2.2.1) ((rdE kkb2 a (Int.toNat i)).2.2.2.1) ((rdE kkb2 a (Int.toNat i)).2.2.2.2) left).bind fun r =>
   cond (decide (r < (0 : Int))) (kkr (-1 : Int)) (gq22.l1 kke0 kkr n a r (IntKind.wrap .i64 (i + (1 : Int))))) (kke0 left)
theorem gq22.l1_nat {R S : Type} (g : R → Option S) (kke0 : Int → Option R) (kkr : Int → Option R) : ∀ n a left i, gq22.l1 (fun y0 => (kke0 y0).bind g) (fun y0 => (kkr y0).bind g) n a left i = (gq22.l1 kke0 kkr n a left i).bind g := by
 intro n
 induction n with
 | zero => intros; rfl
 | succ n ih => intros; simp only [gq22.l1, grd_bind, cnd_bind, bnd_bind, non_bind, ih]
def gq22.F {R : Type} (kk : Int → Option R) (a : List (El kkb2)) (left : Int) : Option R :=
 cond (decide ((IntKind.wrap .i64 (left - (List.length a : Int))) < (0 : Int))) (kk (-1 : Int)) (
  gq22.l1 (fun left1 => kk left1) (fun i => kk i) fuel a (IntKind.wrap .i64 (left - (List.length a : Int))) (0 : Int))
theorem gq22.F_nat {R S : Type} (g : R → Option S) (kk : Int → Option R) (a left) : gq22.F (fun y0 => (kk y0).bind g) a left = (gq22.F kk a left).bind g := by
 simp only [gq22.F, grd_bind, cnd_bind, bnd_bind, non_bind, ← gq22.l1_nat]
def gq22 (a : List (El kkb2)) (left : Int) : Option Int := gq22.F (fun y0 => some y0) a left
def gq22.out : Int → CRes := fun a => ⟨encL SV.enc [.one (.int .i64)] (a, ()), [encL SC.enc [] (), encL SC.enc [] ()]⟩
def gq22.ps : List PS := [.val [some (kkb2, false)], .val [none]]
def gq22.sA : List SA := [.v (.one (.slv [] kkb2)), .v (.one (.int .i64))]
def gq22.fi : FI := FIs gq22.sA (Int) (fun t => gq22 t.1 t.2.1) gq22.out gq22.ps
def gq22.E : Env := ⟨tt, lkF [(42, gq42.fi)], 27, 0, [], []⟩
def gq22.sh1 : SK := ⟨[.v (.one (.slv [1] kkb2)), .v (.one (.int .i64)), .v (.one (.int .i64))], []⟩
def gq22.sh1e0 : SK := ⟨[.v (.one (.int .i64))], []⟩
def gq22.sh1r : SK := ⟨[.v (.one (.int .i64))], []⟩
def gq22.ko1 : Ex → List CastAt × List Nat
 | .nrm => ([], [])
 | .ret => ([], [4])
 | .ext i => cond (Nat.beq i 0) ([], [1]) ([], [])
def gq22.G1 (n : Nat) (R : Type) (t : gq22.sh1.T) (K : Ex → Kp → Option R) : Option R := gq22.l1 (fun y0 => K (.ext 0) (SK.enc gq22.sh1e0 ((y0, ()), ()))) (fun y0 => K .ret (SK.enc gq22.sh1r ((y0, ()), ()))) n t.1.1 t.1.2.1 t.1.2.2.1
def gq22.S1 : Sum := ⟨([], [0, 1, 5]), sumF gq22.sh1 (gq22.G1 fuel), gq22.ko1⟩
theorem gq22.ok1 (hE : EOk Try.prog (gq22.E)) : SumOk Try.prog gq22.E (cB (cR (cL (cR (cR (cR (bodyOf Try.f22))))))) (gq22.S1) := by
 have hh : HintOk Try.prog gq22.E (cB (cB (cR (cL (cR (cR (cR (bodyOf Try.f22)))))))) (.a) := HintOk.n1 (Q := True) (by kernel_rfl) trivial
 have h := loopS (kin := ([], [0, 1, 5])) (kout := gq22.ko1) (sh := gq22.sh1) (F := gq22.G1) (ops_ok (hE.gv _)) (by kernel_rfl) hh (fun _ _ _ => rfl) (fun n R t K => by kernel_rfl) fuel
 exact HintOk.n1 (c := (cB (cR (cL (cR (cR (cR (bodyOf Try.f22)))))))) (h := .s (gq22.S1)) (P := Try.prog) (E := gq22.E) (by kernel_rfl) h
theorem gq22.hok (hE : EOk Try.prog (gq22.E)) : HintOk Try.prog gq22.E (bodyOf Try.f22) (.n (.a) (.n (.a) (.n (.a) (.n (.n (.a) (.b (.s (gq22.S1)))) (.a))))) := HintOk.n1 (Q := (True) ∧ ((True) ∧ ((True) ∧ (((True) ∧ (SumOk Try.prog gq22.E (cB (cR (cL (cR (cR (cR (bodyOf Try.f22))))))) (gq22.S1))) ∧ (True))))) (by kernel_rfl) ⟨trivial, ⟨trivial, ⟨trivial, ⟨⟨trivial, (gq22.ok1 hE)⟩, trivial⟩⟩⟩⟩
theorem gq22.hE : EOk Try.prog (gq22.E) := EOk.of ttOk (⟨gq42.fok, trivial⟩)
theorem gq22.fok : FOk Try.prog 22 gq22.fi :=
 fokS (E := gq22.E) (wy := ⟨[[none]], [[], []], []⟩) (h := (fun gs => .n (.a) (.n (.a) (.n (.a) (.n (.n (.a) (.b (.s (gq22.S1)))) (.a)))))) (G := fun t g => gq22.F (fun y0 => g y0) t.1 t.2.1) (by kernel_rfl) gq22.hE Try.func22 (by kernel_rfl) rfl (Nat.le_refl _) (fun t => HintOk.n1 (by kernel_rfl) (gq22.hok gq22.hE)) (fun t g => gq22.F_nat g (fun y0 => some y0) _ _) (fun t => by kernel_rfl)
def gq6.F {R : Type} (kk : Int → Option R) (a_Leaves : List ByteArray) (a_Map_Key : ByteArray) (a_Map_Value : ByteArray) (a_Map_At : Int) (a_Map_Kids : List (El kk8eb)) (a_Sessions : List (El kkb2)) (left : Int) : Option R :=
 (gq20 a_Leaves left).bind fun r =>
 cond (decide (r < (0 : Int))) (kk (-1 : Int)) (
  (gq21 fuel a_Map_Key a_Map_Value a_Map_At a_Map_Kids r).bind fun r1 =>
  cond (decide (r1 < (0 : Int))) (kk (-1 : Int)) (
   (gq22 a_Sessions r1).bind fun r2 =>
   cond (decide (r2 < (0 : Int))) (kk (-1 : Int)) (kk r2)))
theorem gq6.F_nat {R S : Type} (g : R → Option S) (kk : Int → Option R) (a_Leaves a_Map_Key a_Map_Value a_Map_At a_Map_Kids a_Sessions left) : gq6.F (fun y0 => (kk y0).bind g) a_Leaves a_Map_Key a_Map_Value a_Map_At a_Map_Kids a_Sessions left = (gq6.F kk a_Leaves a_Map_Key a_Map_Value a_Map_At a_Map_Kids a_Sessions left).bind g := by
 simp only [gq6.F, grd_bind, cnd_bind, bnd_bind, non_bind]
def gq6 (a_Leaves : List ByteArray) (a_Map_Key : ByteArray) (a_Map_Value : ByteArray) (a_Map_At : Int) (a_Map_Kids : List (El kk8eb)) (a_Sessions : List (El kkb2)) (left : Int) : Option Int := gq6.F (fun y0 => some y0) a_Leaves a_Map_Key a_Map_Value a_Map_At a_Map_Kids a_Sessions left
def gq6.out : Int → CRes := fun a => ⟨encL SV.enc [.one (.int .i64)] (a, ()), [encL SC.enc [] (), encL SC.enc [] ()]⟩
def gq6.ps : List PS := [.val [some (.str, false), none, none, none, some (kk8eb, false), some (kkb2, false)], .val [none]]
def gq6.sA : List SA := [.v (.agg [.slv [] .str, .str, .str, .int .i64, .slv [] kk8eb, .slv [] kkb2]), .v (.one (.int .i64))]
def gq6.fi : FI := FIs gq6.sA (Int) (fun t => gq6 t.1.1 t.1.2.1 t.1.2.2.1 t.1.2.2.2.1 t.1.2.2.2.2.1 t.1.2.2.2.2.2.1 t.2.1) gq6.out gq6.ps
def gq6.E : Env := ⟨tt, lkF [(20, gq20.fi), (21, gq21.fi fuel), (22, gq22.fi)], 24, 0, [], []⟩
theorem gq6.hok (hE : EOk Try.prog (gq6.E)) : HintOk Try.prog gq6.E (bodyOf Try.f6) (.a) := HintOk.n1 (Q := True) (by kernel_rfl) trivial
theorem gq6.hE : EOk Try.prog (gq6.E) := EOk.of ttOk (⟨gq20.fok, ⟨gq21.fok fuel, ⟨gq22.fok, trivial⟩⟩⟩)
theorem gq6.fok : FOk Try.prog 6 gq6.fi :=
 fokS (E := gq6.E) (wy := ⟨[[none]], [[], []], []⟩) (h := (fun gs => .a)) (G := fun t g => gq6.F (fun y0 => g y0) t.1.1 t.1.2.1 t.1.2.2.1 t.1.2.2.2.1 t.1.2.2.2.2.1 t.1.2.2.2.2.2.1 t.2.1) (by kernel_rfl) gq6.hE Try.func6 (by kernel_rfl) rfl (Nat.le_refl _) (fun t => HintOk.n1 (by kernel_rfl) (gq6.hok gq6.hE)) (fun t g => gq6.F_nat g (fun y0 => some y0) _ _ _ _ _ _ _) (fun t => by kernel_rfl)
def gq32.F {R : Type} (kk : Bool → Option R) (n_ : Int) (low : Int) (high : Int) : Option R :=
 cond (decide (n_ ≥ low)) (kk (decide (n_ ≤ high))) (kk false)
theorem gq32.F_nat {R S : Type} (g : R → Option S) (kk : Bool → Option R) (n_ low high) : gq32.F (fun y0 => (kk y0).bind g) n_ low high = (gq32.F kk n_ low high).bind g := by
 simp only [gq32.F, grd_bind, cnd_bind, bnd_bind, non_bind]
def gq32 (n_ : Int) (low : Int) (high : Int) : Option Bool := gq32.F (fun y0 => some y0) n_ low high
def gq32.out : Bool → CRes := fun a => ⟨encL SV.enc [.one (.bool)] (a, ()), [encL SC.enc [] (), encL SC.enc [] (), encL SC.enc [] ()]⟩
def gq32.ps : List PS := [.val [none], .val [none], .val [none]]
def gq32.sA : List SA := [.v (.one (.int .i64)), .v (.one (.int .i64)), .v (.one (.int .i64))]
def gq32.fi : FI := FIs gq32.sA (Bool) (fun t => gq32 t.1 t.2.1 t.2.2.1) gq32.out gq32.ps
def gq32.E : Env := ⟨tt, lkF [], 15, 0, [], []⟩
theorem gq32.hok (hE : EOk Try.prog (gq32.E)) : HintOk Try.prog gq32.E (bodyOf Try.f32) (.a) := HintOk.n1 (Q := True) (by kernel_rfl) trivial
theorem gq32.hE : EOk Try.prog (gq32.E) := EOk.of ttOk (trivial)
theorem gq32.fok : FOk Try.prog 32 gq32.fi :=
 fokS (E := gq32.E) (wy := ⟨[[none]], [[], [], []], []⟩) (h := (fun gs => .a)) (G := fun t g => gq32.F (fun y0 => g y0) t.1 t.2.1 t.2.2.1) (by kernel_rfl) gq32.hE Try.func32 (by kernel_rfl) rfl (Nat.le_refl _) (fun t => HintOk.n1 (by kernel_rfl) (gq32.hok gq32.hE)) (fun t g => gq32.F_nat g (fun y0 => some y0) _ _ _) (fun t => by kernel_rfl)
def gq43.l1 {R : Type} (kke0 : Option R) (kkr : Bool → Option R) : Nat → List ByteArray → Int → Option R
 | 0, _, _ => none
 | n + 1, list, i =>
  cond (decide (i < (List.length list : Int))) (
   grd (gIx i (List.length list)) <|
   cond ((ByteArray.size (rdE (.str : Kd) list (Int.toNat i)) : Int) != (32 : Int)) (kkr false) (gq43.l1 kke0 kkr n list (IntKind.wrap .i64 (i + (1 : Int))))) (kke0)
theorem gq43.l1_nat {R S : Type} (g : R → Option S) (kke0 : Option R) (kkr : Bool → Option R) : ∀ n list i, gq43.l1 (kke0.bind g) (fun y0 => (kkr y0).bind g) n list i = (gq43.l1 kke0 kkr n list i).bind g := by
 intro n
 induction n with
 | zero => intros; rfl
 | succ n ih => intros; simp only [gq43.l1, grd_bind, cnd_bind, bnd_bind, non_bind, ih]
def gq43.F {R : Type} (kk : Bool → Option R) (list : List ByteArray) : Option R :=
 cond (decide ((List.length list : Int) > (64 : Int))) (kk false) (gq43.l1 (kk true) (fun b => kk b) fuel list (0 : Int))
theorem gq43.F_nat {R S : Type} (g : R → Option S) (kk : Bool → Option R) (list) : gq43.F (fun y0 => (kk y0).bind g) list = (gq43.F kk list).bind g := by
 simp only [gq43.F, grd_bind, cnd_bind, bnd_bind, non_bind, ← gq43.l1_nat]
def gq43 (list : List ByteArray) : Option Bool := gq43.F (fun y0 => some y0) list
def gq43.out : Bool → CRes := fun a => ⟨encL SV.enc [.one (.bool)] (a, ()), [encL SC.enc [] ()]⟩
def gq43.ps : List PS := [.val [some (.str, false)]]
def gq43.sA : List SA := [.v (.one (.slv [] .str))]
def gq43.fi : FI := FIs gq43.sA (Bool) (fun t => gq43 t.1) gq43.out gq43.ps
def gq43.E : Env := ⟨tt, lkF [], 19, 0, [], []⟩
def gq43.sh1 : SK := ⟨[.v (.one (.slv [1] .str)), .v (.one (.int .i64))], []⟩
def gq43.sh1e0 : SK := ⟨[], []⟩
def gq43.sh1r : SK := ⟨[.v (.one (.bool))], []⟩
def gq43.ko1 : Ex → List CastAt × List Nat
 | .nrm => ([], [])
 | .ret => ([], [2])
 | .ext i => cond (Nat.beq i 0) ([], []) ([], [])
def gq43.G1 (n : Nat) (R : Type) (t : gq43.sh1.T) (K : Ex → Kp → Option R) : Option R := gq43.l1 (K (.ext 0) (SK.enc gq43.sh1e0 ((), ()))) (fun y0 => K .ret (SK.enc gq43.sh1r ((y0, ()), ()))) n t.1.1 t.1.2.1
def gq43.S1 : Sum := ⟨([], [0, 3]), sumF gq43.sh1 (gq43.G1 fuel), gq43.ko1⟩
theorem gq43.ok1 (hE : EOk Try.prog (gq43.E)) : SumOk Try.prog gq43.E (cB (cR (cL (cR (cR (bodyOf Try.f43)))))) (gq43.S1) := by
 have hh : HintOk Try.prog gq43.E (cB (cB (cR (cL (cR (cR (bodyOf Try.f43))))))) (.a) := HintOk.n1 (Q := True) (by kernel_rfl) trivial
 have h := loopS (kin := ([], [0, 3])) (kout := gq43.ko1) (sh := gq43.sh1) (F := gq43.G1) (ops_ok (hE.gv _)) (by kernel_rfl) hh (fun _ _ _ => rfl) (fun n R t K => by kernel_rfl) fuel
 exact HintOk.n1 (c := (cB (cR (cL (cR (cR (bodyOf Try.f43))))))) (h := .s (gq43.S1)) (P := Try.prog) (E := gq43.E) (by kernel_rfl) h
theorem gq43.hok (hE : EOk Try.prog (gq43.E)) : HintOk Try.prog gq43.E (bodyOf Try.f43) (.n (.a) (.n (.a) (.n (.n (.a) (.b (.s (gq43.S1)))) (.a)))) := HintOk.n1 (Q := (True) ∧ ((True) ∧ (((True) ∧ (SumOk Try.prog gq43.E (cB (cR (cL (cR (cR (bodyOf Try.f43)))))) (gq43.S1))) ∧ (True)))) (by kernel_rfl) ⟨trivial, ⟨trivial, ⟨⟨trivial, (gq43.ok1 hE)⟩, trivial⟩⟩⟩
theorem gq43.hE : EOk Try.prog (gq43.E) := EOk.of ttOk (trivial)
theorem gq43.fok : FOk Try.prog 43 gq43.fi :=
 fokS (E := gq43.E) (wy := ⟨[[none]], [[]], []⟩) (h := (fun gs => .n (.a) (.n (.a) (.n (.n (.a) (.b (.s (gq43.S1)))) (.a))))) (G := fun t g => gq43.F (fun y0 => g y0) t.1) (by kernel_rfl) gq43.hE Try.func43 (by kernel_rfl) rfl (Nat.le_refl _) (fun t => HintOk.n1 (by kernel_rfl) (gq43.hok gq43.hE)) (fun t g => gq43.F_nat g (fun y0 => some y0) _) (fun t => by kernel_rfl)
def gq61.F {R : Type} (kk : Bool → Option R) (b_Key : ByteArray) (b_Value : ByteArray) (b_At : Int) (b_Kids : List (El kk8eb)) : Option R :=
 cond (sEq b_Key ByteArray.empty) (
  cond (sEq b_Value ByteArray.empty) (cond (b_At == (0 : Int)) (kk ((List.length b_Kids : Int) == (0 : Int))) (kk false)) (kk false)) (kk false)
theorem gq61.F_nat {R S : Type} (g : R → Option S) (kk : Bool → Option R) (b_Key b_Value b_At b_Kids) : gq61.F (fun y0 => (kk y0).bind g) b_Key b_Value b_At b_Kids = (gq61.F kk b_Key b_Value b_At b_Kids).bind g := by
 simp only [gq61.F, grd_bind, cnd_bind, bnd_bind, non_bind]
def gq61 (b_Key : ByteArray) (b_Value : ByteArray) (b_At : Int) (b_Kids : List (El kk8eb)) : Option Bool := gq61.F (fun y0 => some y0) b_Key b_Value b_At b_Kids
def gq61.out : Bool → CRes := fun a => ⟨encL SV.enc [.one (.bool)] (a, ()), [encL SC.enc [] ()]⟩
def gq61.ps : List PS := [.val [none, none, none, some (kk8eb, false)]]
def gq61.sA : List SA := [.v (.agg [.str, .str, .int .i64, .slv [] kk8eb])]
def gq61.fi : FI := FIs gq61.sA (Bool) (fun t => gq61 t.1.1 t.1.2.1 t.1.2.2.1 t.1.2.2.2.1) gq61.out gq61.ps
def gq61.E : Env := ⟨tt, lkF [], 22, 0, [], []⟩
theorem gq61.hok (hE : EOk Try.prog (gq61.E)) : HintOk Try.prog gq61.E (bodyOf Try.f61) (.a) := HintOk.n1 (Q := True) (by kernel_rfl) trivial
theorem gq61.hE : EOk Try.prog (gq61.E) := EOk.of ttOk (trivial)
theorem gq61.fok : FOk Try.prog 61 gq61.fi :=
 fokS (E := gq61.E) (wy := ⟨[[none]], [[]], []⟩) (h := (fun gs => .a)) (G := fun t g => gq61.F (fun y0 => g y0) t.1.1 t.1.2.1 t.1.2.2.1 t.1.2.2.2.1) (by kernel_rfl) gq61.hE Try.func61 (by kernel_rfl) rfl (Nat.le_refl _) (fun t => HintOk.n1 (by kernel_rfl) (gq61.hok gq61.hE)) (fun t g => gq61.F_nat g (fun y0 => some y0) _ _ _ _) (fun t => by kernel_rfl)
def gq65.F {R : Type} (kk : Bool → Option R) (b_Key : ByteArray) (b_Value : ByteArray) (b_At : Int) (b_Kids : List (El kk8eb)) : Option R :=
 kk ((List.length b_Kids : Int) == (0 : Int))
theorem gq65.F_nat {R S : Type} (g : R → Option S) (kk : Bool → Option R) (b_Key b_Value b_At b_Kids) : gq65.F (fun y0 => (kk y0).bind g) b_Key b_Value b_At b_Kids = (gq65.F kk b_Key b_Value b_At b_Kids).bind g := by
 simp only [gq65.F, grd_bind, cnd_bind, bnd_bind, non_bind]
def gq65 (b_Key : ByteArray) (b_Value : ByteArray) (b_At : Int) (b_Kids : List (El kk8eb)) : Option Bool := gq65.F (fun y0 => some y0) b_Key b_Value b_At b_Kids
def gq65.out : Bool → CRes := fun a => ⟨encL SV.enc [.one (.bool)] (a, ()), [encL SC.enc [] ()]⟩
def gq65.ps : List PS := [.val [none, none, none, some (kk8eb, false)]]
def gq65.sA : List SA := [.v (.agg [.str, .str, .int .i64, .slv [] kk8eb])]
def gq65.fi : FI := FIs gq65.sA (Bool) (fun t => gq65 t.1.1 t.1.2.1 t.1.2.2.1 t.1.2.2.2.1) gq65.out gq65.ps
def gq65.E : Env := ⟨tt, lkF [], 7, 0, [], []⟩
theorem gq65.hok (hE : EOk Try.prog (gq65.E)) : HintOk Try.prog gq65.E (bodyOf Try.f65) (.a) := HintOk.n1 (Q := True) (by kernel_rfl) trivial
theorem gq65.hE : EOk Try.prog (gq65.E) := EOk.of ttOk (trivial)
theorem gq65.fok : FOk Try.prog 65 gq65.fi :=
 fokS (E := gq65.E) (wy := ⟨[[none]], [[]], []⟩) (h := (fun gs => .a)) (G := fun t g => gq65.F (fun y0 => g y0) t.1.1 t.1.2.1 t.1.2.2.1 t.1.2.2.2.1) (by kernel_rfl) gq65.hE Try.func65 (by kernel_rfl) rfl (Nat.le_refl _) (fun t => HintOk.n1 (by kernel_rfl) (gq65.hok gq65.hE)) (fun t g => gq65.F_nat g (fun y0 => some y0) _ _ _ _) (fun t => by kernel_rfl)
def gq79.F {R : Type} (kk : Bool → Option R) (k_ : ByteArray) : Option R :=
 cond (decide ((ByteArray.size k_ : Int) ≥ (1 : Int))) (kk (decide ((ByteArray.size k_ : Int) ≤ (24 : Int)))) (kk false)
theorem gq79.F_nat {R S : Type} (g : R → Option S) (kk : Bool → Option R) (k_) : gq79.F (fun y0 => (kk y0).bind g) k_ = (gq79.F kk k_).bind g := by
 simp only [gq79.F, grd_bind, cnd_bind, bnd_bind, non_bind]
def gq79 (k_ : ByteArray) : Option Bool := gq79.F (fun y0 => some y0) k_
def gq79.out : Bool → CRes := fun a => ⟨encL SV.enc [.one (.bool)] (a, ()), [encL SC.enc [] ()]⟩
def gq79.ps : List PS := [.val [none]]
def gq79.sA : List SA := [.v (.one (.str))]
def gq79.fi : FI := FIs gq79.sA (Bool) (fun t => gq79 t.1) gq79.out gq79.ps
def gq79.E : Env := ⟨tt, lkF [], 11, 0, [], []⟩
theorem gq79.hok (hE : EOk Try.prog (gq79.E)) : HintOk Try.prog gq79.E (bodyOf Try.f79) (.a) := HintOk.n1 (Q := True) (by kernel_rfl) trivial
theorem gq79.hE : EOk Try.prog (gq79.E) := EOk.of ttOk (trivial)
theorem gq79.fok : FOk Try.prog 79 gq79.fi :=
 fokS (E := gq79.E) (wy := ⟨[[none]], [[]], []⟩) (h := (fun gs => .a)) (G := fun t g => gq79.F (fun y0 => g y0) t.1) (by kernel_rfl) gq79.hE Try.func79 (by kernel_rfl) rfl (Nat.le_refl _) (fun t => HintOk.n1 (by kernel_rfl) (gq79.hok gq79.hE)) (fun t g => gq79.F_nat g (fun y0 => some y0) _) (fun t => by kernel_rfl)
def gq80.l1 {R : Type} (kke2 : ByteArray → Int → List Int → Option R) : Nat → ByteArray → Int → Int → List Int → Option R
 | 0, _, _, _, _ => none
 | n + 1, h, i, k_, out =>
  cond (decide (k_ ≥ (0 : Int))) (
   grd (gIx i (ByteArray.size h)) <|
   grd (gSh (IntKind.wrap .u64 k_)) <|
   grd (gRm (((List.length out) + (List.length [IntKind.wrap .u8 ((48 : Int) + (iAnd .u8 (iShr .u8 (byteAt h i) (IntKind.wrap .u64 k_)) (1 : Int)))])) * 1)) <|
   gq80.l1 kke2 n h i (IntKind.wrap .i64 (k_ - (1 : Int))) (out ++ [IntKind.wrap .u8 ((48 : Int) + (iAnd .u8 (iShr .u8 (byteAt h i) (IntKind.wrap .u64 k_)) (1 : Int)))])) (kke2 h i out)
theorem gq80.l1_nat {R S : Type} (g : R → Option S) (kke2 : ByteArray → Int → List Int → Option R) : ∀ n h i k_ out, gq80.l1 (fun y0 y1 y2 => (kke2 y0 y1 y2).bind g) n h i k_ out = (gq80.l1 kke2 n h i k_ out).bind g := by
 intro n
 induction n with
 | zero => intros; rfl
 | succ n ih => intros; simp only [gq80.l1, grd_bind, cnd_bind, bnd_bind, non_bind, ih]
def gq80.l2 {R : Type} (kke0 : List Int → Option R) : Nat → ByteArray → Int → List Int → Option R
 | 0, _, _, _ => none
 | n + 1, h, i, out =>
  cond (decide (i < (ByteArray.size h : Int))) (
   gq80.l1 (fun h1 i1 out1 => gq80.l2 kke0 n h1 (IntKind.wrap .i64 (i1 + (1 : Int))) out1) fuel h i (7 : Int) out) (kke0 out)
theorem gq80.l2_nat {R S : Type} (g : R → Option S) (kke0 : List Int → Option R) : ∀ n h i out, gq80.l2 (fun y0 => (kke0 y0).bind g) n h i out = (gq80.l2 kke0 n h i out).bind g := by
 intro n
 induction n with
 | zero => intros; rfl
 | succ n ih => intros; simp only [gq80.l2, grd_bind, cnd_bind, bnd_bind, non_bind, ← gq80.l1_nat, ih]
def gq80.F {R : Type} (kk : ByteArray → Option R) (h : ByteArray) : Option R :=
 gq80.l2 (fun out => kk (strL out)) fuel h (0 : Int) ([] : List Int)
theorem gq80.F_nat {R S : Type} (g : R → Option S) (kk : ByteArray → Option R) (h) : gq80.F (fun y0 => (kk y0).bind g) h = (gq80.F kk h).bind g := by
 simp only [gq80.F, grd_bind, cnd_bind, bnd_bind, non_bind, ← gq80.l2_nat]
def gq80 (h : ByteArray) : Option ByteArray := gq80.F (fun y0 => some y0) h
def gq80.out : ByteArray → CRes := fun a => ⟨encL SV.enc [.one (.str)] (a, ()), [encL SC.enc [] ()]⟩
def gq80.ps : List PS := [.val [none]]
def gq80.sA : List SA := [.v (.one (.str))]
def gq80.fi : FI := FIs gq80.sA (ByteArray) (fun t => gq80 t.1) gq80.out gq80.ps
def gq80.E : Env := ⟨tt, lkF [], 30, 0, [], []⟩
def gq80.sh1 : SK := ⟨[.v (.one (.str)), .v (.one (.slo 0)), .v (.one (.int .i64)), .v (.one (.int .i64))], [.arr (.int .u8) [] true]⟩
def gq80.sh1e2 : SK := ⟨[.v (.one (.str)), .v (.one (.slo 0)), .v (.one (.int .i64))], [.arr (.int .u8) [] true]⟩
def gq80.ko1 : Ex → List CastAt × List Nat
 | .nrm => ([], [])
 | .ret => ([], [])
 | .ext i => cond (Nat.beq i 2) ([], [0, 3, 4]) ([], [])
def gq80.G1 (n : Nat) (R : Type) (t : gq80.sh1.T) (K : Ex → Kp → Option R) : Option R := gq80.l1 (fun y0 y1 y2 => K (.ext 2) (SK.enc gq80.sh1e2 ((y0, (), y1, ()), (y2, ())))) n t.1.1 t.1.2.2.1 t.1.2.2.2.1 t.2.1
def gq80.S1 : Sum := ⟨([], [0, 3, 4, 5]), sumF gq80.sh1 (gq80.G1 fuel), gq80.ko1⟩
theorem gq80.ok1 (hE : EOk Try.prog (gq80.E)) : SumOk Try.prog gq80.E (cB (cR (cB (cL (cR (cB (cB (cR (cL (cR (cR (bodyOf Try.f80)))))))))))) (gq80.S1) := by
 have hh : HintOk Try.prog gq80.E (cB (cB (cR (cB (cL (cR (cB (cB (cR (cL (cR (cR (bodyOf Try.f80))))))))))))) (.a) := HintOk.n1 (Q := True) (by kernel_rfl) trivial
 have h := loopS (kin := ([], [0, 3, 4, 5])) (kout := gq80.ko1) (sh := gq80.sh1) (F := gq80.G1) (ops_ok (hE.gv _)) (by kernel_rfl) hh (fun _ _ _ => rfl) (fun n R t K => by kernel_rfl) fuel
 exact HintOk.n1 (c := (cB (cR (cB (cL (cR (cB (cB (cR (cL (cR (cR (bodyOf Try.f80))))))))))))) (h := .s (gq80.S1)) (P := Try.prog) (E := gq80.E) (by kernel_rfl) h
def gq80.sh2 : SK := ⟨[.v (.one (.str)), .v (.one (.slo 0)), .v (.one (.int .i64))], [.arr (.int .u8) [] true]⟩
def gq80.sh2e0 : SK := ⟨[.v (.one (.slo 0))], [.arr (.int .u8) [] true]⟩
def gq80.ko2 : Ex → List CastAt × List Nat
 | .nrm => ([], [])
 | .ret => ([], [])
 | .ext i => cond (Nat.beq i 0) ([], [3]) ([], [])
def gq80.G2 (n : Nat) (R : Type) (t : gq80.sh2.T) (K : Ex → Kp → Option R) : Option R := gq80.l2 (fun y0 => K (.ext 0) (SK.enc gq80.sh2e0 (((), ()), (y0, ())))) n t.1.1 t.1.2.2.1 t.2.1
def gq80.S2 : Sum := ⟨([], [0, 3, 4]), sumF gq80.sh2 (gq80.G2 fuel), gq80.ko2⟩
theorem gq80.ok2 (hE : EOk Try.prog (gq80.E)) : SumOk Try.prog gq80.E (cB (cR (cL (cR (cR (bodyOf Try.f80)))))) (gq80.S2) := by
 have hh : HintOk Try.prog gq80.E (cB (cB (cR (cL (cR (cR (bodyOf Try.f80))))))) (.n (.a) (.n (.b (.n (.a) (.b (.s (gq80.S1))))) (.a))) := HintOk.n1 (Q := (True) ∧ (((True) ∧ (SumOk Try.prog gq80.E (cB (cR (cB (cL (cR (cB (cB (cR (cL (cR (cR (bodyOf Try.f80)))))))))))) (gq80.S1))) ∧ (True))) (by kernel_rfl) ⟨trivial, ⟨⟨trivial, (gq80.ok1 hE)⟩, trivial⟩⟩
 have h := loopS (kin := ([], [0, 3, 4])) (kout := gq80.ko2) (sh := gq80.sh2) (F := gq80.G2) (ops_ok (hE.gv _)) (by kernel_rfl) hh (fun _ _ _ => rfl) (fun n R t K => by kernel_rfl) fuel
 exact HintOk.n1 (c := (cB (cR (cL (cR (cR (bodyOf Try.f80))))))) (h := .s (gq80.S2)) (P := Try.prog) (E := gq80.E) (by kernel_rfl) h
theorem gq80.hok (hE : EOk Try.prog (gq80.E)) : HintOk Try.prog gq80.E (bodyOf Try.f80) (.n (.a) (.n (.a) (.n (.n (.a) (.b (.s (gq80.S2)))) (.a)))) := HintOk.n1 (Q := (True) ∧ ((True) ∧ (((True) ∧ (SumOk Try.prog gq80.E (cB (cR (cL (cR (cR (bodyOf Try.f80)))))) (gq80.S2))) ∧ (True)))) (by kernel_rfl) ⟨trivial, ⟨trivial, ⟨⟨trivial, (gq80.ok2 hE)⟩, trivial⟩⟩⟩
theorem gq80.hE : EOk Try.prog (gq80.E) := EOk.of ttOk (trivial)
theorem gq80.fok : FOk Try.prog 80 gq80.fi :=
 fokS (E := gq80.E) (wy := ⟨[[none]], [[]], []⟩) (h := (fun gs => .n (.a) (.n (.a) (.n (.n (.a) (.b (.s (gq80.S2)))) (.a))))) (G := fun t g => gq80.F (fun y0 => g y0) t.1) (by kernel_rfl) gq80.hE Try.func80 (by kernel_rfl) rfl (Nat.le_refl _) (fun t => HintOk.n1 (by kernel_rfl) (gq80.hok gq80.hE)) (fun t g => gq80.F_nat g (fun y0 => some y0) _) (fun t => by kernel_rfl)
def gq82.F {R : Type} (kk : List Int → Option R) : Option R :=
 kk [(1116352408 : Int), (1899447441 : Int), (3049323471 : Int), (3921009573 : Int), (961987163 : Int), (1508970993 : Int), (2453635748 : Int), (2870763221 : Int), (3624381080 : Int), (310598401 : Int), (607225278 : Int), (1426881987 : Int), (1925078388 : Int), (2162078206 : Int), (2614888103 : Int), (3248222580 : Int), (3835390401 : Int), (4022224774 : Int), (264347078 : Int), (604807628 : Int), (770255983 : Int), (1249150122 : Int), (1555081692 : Int), (1996064986 : Int), (2554220882 : Int), (2821834349 : Int), (2952996808 : Int), (3210313671 : Int), (3336571891 : Int), (3584528711 : Int), (113926993 : Int), (338241895 : Int), (666307205 : Int), (773529912 : Int), (1294757372 : Int), (1396182291 : Int), (1695183700 : Int), (1986661051 : Int), (2177026350 : Int), (2456956037 : Int), (2730485921 : Int), (2820302411 : Int), (3259730800 : Int), (3345764771 : Int), (3516065817 : Int), (3600352804 : Int), (4094571909 : Int), (275423344 : Int), (430227734 : Int), (506948616 : Int), (659060556 : Int), (883997877 : Int), (958139571 : Int), (1322822218 : Int), (1537002063 : Int), (1747873779 : Int), (1955562222 : Int), (2024104815 : Int), (2227730452 : Int), (2361852424 : Int), (2428436474 : Int), (2756734187 : Int), (3204031479 : Int), (3329325298 : Int)]
theorem gq82.F_nat {R S : Type} (g : R → Option S) (kk : List Int → Option R) : gq82.F (fun y0 => (kk y0).bind g) = (gq82.F kk).bind g := by
 simp only [gq82.F, grd_bind, cnd_bind, bnd_bind, non_bind]
def gq82 : Option (List Int) := gq82.F (fun y0 => some y0)
def gq82.out : (List Int) → CRes := fun a => ⟨encL SV.enc [.one (.own [] (.int .u32) true)] (a, ()), []⟩
def gq82.ps : List PS := []
def gq82.sA : List SA := []
def gq82.fi : FI := FIs gq82.sA (List Int) (fun t => gq82) gq82.out gq82.ps
def gq82.E : Env := ⟨tt, lkF [], 2, 0, [], []⟩
theorem gq82.hok (hE : EOk Try.prog (gq82.E)) : HintOk Try.prog gq82.E (bodyOf Try.f82) (.a) := HintOk.n1 (Q := True) (by kernel_rfl) trivial
theorem gq82.hE : EOk Try.prog (gq82.E) := EOk.of ttOk (trivial)
theorem gq82.fok : FOk Try.prog 82 gq82.fi :=
 fokS (E := gq82.E) (wy := ⟨[[some ((.int .u32), true)]], [], []⟩) (h := (fun gs => .a)) (G := fun t g => gq82.F (fun y0 => g y0)) (by kernel_rfl) gq82.hE Try.func82 (by kernel_rfl) rfl (Nat.le_refl _) (fun t => HintOk.n1 (by kernel_rfl) (gq82.hok gq82.hE)) (fun t g => gq82.F_nat g (fun y0 => some y0)) (fun t => by kernel_rfl)
def gq92.F {R : Type} (kk : Int → Option R) (x : Int) (n_ : Int) : Option R :=
 grd (gSh n_) <|
 grd (gSh (IntKind.wrap .u64 ((32 : Int) - n_))) <|
 kk (iOr .u32 (iShr .u32 x n_) (iShl .u32 x (IntKind.wrap .u64 ((32 : Int) - n_))))
theorem gq92.F_nat {R S : Type} (g : R → Option S) (kk : Int → Option R) (x n_) : gq92.F (fun y0 => (kk y0).bind g) x n_ = (gq92.F kk x n_).bind g := by
 simp only [gq92.F, grd_bind, cnd_bind, bnd_bind, non_bind]
def gq92 (x : Int) (n_ : Int) : Option Int := gq92.F (fun y0 => some y0) x n_
def gq92.out : Int → CRes := fun a => ⟨encL SV.enc [.one (.int .u32)] (a, ()), [encL SC.enc [] (), encL SC.enc [] ()]⟩
def gq92.ps : List PS := [.val [none], .val [none]]
def gq92.sA : List SA := [.v (.one (.int .u32)), .v (.one (.int .u64))]
def gq92.fi : FI := FIs gq92.sA (Int) (fun t => gq92 t.1 t.2.1) gq92.out gq92.ps
def gq92.E : Env := ⟨tt, lkF [], 13, 0, [], []⟩
theorem gq92.hok (hE : EOk Try.prog (gq92.E)) : HintOk Try.prog gq92.E (bodyOf Try.f92) (.a) := HintOk.n1 (Q := True) (by kernel_rfl) trivial
theorem gq92.hE : EOk Try.prog (gq92.E) := EOk.of ttOk (trivial)
theorem gq92.fok : FOk Try.prog 92 gq92.fi :=
 fokS (E := gq92.E) (wy := ⟨[[none]], [[], []], []⟩) (h := (fun gs => .a)) (G := fun t g => gq92.F (fun y0 => g y0) t.1 t.2.1) (by kernel_rfl) gq92.hE Try.func92 (by kernel_rfl) rfl (Nat.le_refl _) (fun t => HintOk.n1 (by kernel_rfl) (gq92.hok gq92.hE)) (fun t g => gq92.F_nat g (fun y0 => some y0) _ _) (fun t => by kernel_rfl)
def gq83.l1 {R : Type} (kke0 : List Int → List Int → List Int → Option R) : Nat → List Int → List Int → Int → List Int → List Int → Option R
 | 0, _, _, _, _, _ => none
 | n + 1, b, k_, i, h, w =>
  cond (decide (i < (16 : Int))) (
   grd (gIx (IntKind.wrap .i64 ((4 : Int) * i)) (List.length b)) <|
   grd (gSh (24 : Int)) <|
   grd (gIx (IntKind.wrap .i64 ((IntKind.wrap .i64 ((4 : Int) * i)) + (1 : Int))) (List.length b)) <|
   grd (gSh (16 : Int)) <|
   grd (gIx (IntKind.wrap .i64 ((IntKind.wrap .i64 ((4 : Int) * i)) + (2 : Int))) (List.length b)) <|
   grd (gSh (8 : Int)) <|
   grd (gIx (IntKind.wrap .i64 ((IntKind.wrap .i64 ((4 : Int) * i)) + (3 : Int))) (List.length b)) <|
   grd (gIx i (List.length w)) <|
   gq83.l1 kke0 n b k_ (IntKind.wrap .i64 (i + (1 : Int))) h (setE (.int .u32 : Kd) w (Int.toNat i) (iOr .u32 (iOr .u32 (iOr .u32 (iShl .u32 (IntKind.wrap .u32 (rdE (.int .u8 : Kd) b (Int.toNat (IntKind.wrap .i64 ((4 : Int) * i))))) (24 : Int)) (iShl .u32 (IntKind.wrap .u32 (rdE (.int .u8 : Kd) b (Int.toNat (IntKind.wrap .i64 ((IntKind.wrap .i64 ((4 : Int) * i)) + (1 : Int)))))) (16 : Int))) (iShl .u32 (IntKind.wrap .u32 (rdE (.int .u8 : Kd) b (Int.toNat (IntKind.wrap .i64 ((IntKind.wrap .i64 ((4 : Int) * i)) + (2 : Int)))))) (8 : Int))) (IntKind.wrap .u32 (rdE (.int .u8 : Kd) b (Int.toNat (IntKind.wrap .i64 ((IntKind.wrap .i64 ((4 : Int) * i)) + (3 : Int))))))))) (kke0 k_ h w)
theorem gq83.l1_nat {R S : Type} (g : R → Option S) (kke0 : List Int → List Int → List Int → Option R) : ∀ n b k_ i h w, gq83.l1 (fun y0 y1 y2 => (kke0 y0 y1 y2).bind g) n b k_ i h w = (gq83.l1 kke0 n b k_ i h w).bind g := by
 intro n
 induction n with
 | zero => intros; rfl
 | succ n ih => intros; simp only [gq83.l1, grd_bind, cnd_bind, bnd_bind, non_bind, ih]
def gq83.l2 {R : Type} (kke2 : List Int → List Int → List Int → Option R) : Nat → List Int → Int → List Int → List Int → Option R
 | 0, _, _, _, _ => none
 | n + 1, k_, i, h, w =>
  cond (decide (i < (64 : Int))) (
   grd (gIx (IntKind.wrap .i64 (i - (15 : Int))) (List.length w)) <|
   grd (gIx (IntKind.wrap .i64 (i - (2 : Int))) (List.length w)) <|
   grd (gIx (IntKind.wrap .i64 (i - (16 : Int))) (List.length w)) <|
   (gq92 (rdE (.int .u32 : Kd) w (Int.toNat (IntKind.wrap .i64 (i - (15 : Int))))) (7 : Int)).bind fun r =>
   (gq92 (rdE (.int .u32 : Kd) w (Int.toNat (IntKind.wrap .i64 (i - (15 : Int))))) (18 : Int)).bind fun r1 =>
   grd (gSh (3 : Int)) <|
   grd (gIx (IntKind.wrap .i64 (i - (7 : Int))) (List.length w)) <|
   (gq92 (rdE (.int .u32 : Kd) w (Int.toNat (IntKind.wrap .i64 (i - (2 : Int))))) (17 : Int)).bind fun r2 =>
   (gq92 (rdE (.int .u32 : Kd) w (Int.toNat (IntKind.wrap .i64 (i - (2 : Int))))) (19 : Int)).bind fun r3 =>
   grd (gSh (10 : Int)) <|
   grd (gIx i (List.length w)) <|
   gq83.l2 kke2 n k_ (IntKind.wrap .i64 (i + (1 : Int))) h (setE (.int .u32 : Kd) w (Int.toNat i) (IntKind.wrap .u32 ((IntKind.wrap .u32 ((IntKind.wrap .u32 ((rdE (.int .u32 : Kd) w (Int.toNat (IntKind.wrap .i64 (i - (16 : Int))))) + (iXor .u32 (iXor .u32 r r1) (iShr .u32 (rdE (.int .u32 : Kd) w (Int.toNat (IntKind.wrap .i64 (i - (15 : Int))))) (3 : Int))))) + (rdE (.int .u32 : Kd) w (Int.toNat (IntKind.wrap .i64 (i - (7 : Int))))))) + (iXor .u32 (iXor .u32 r2 r3) (iShr .u32 (rdE (.int .u32 : Kd) w (Int.toNat (IntKind.wrap .i64 (i - (2 : Int))))) (10 : Int))))))) (kke2 k_ h w)
theorem gq83.l2_nat {R S : Type} (g : R → Option S) (kke2 : List Int → List Int → List Int → Option R) : ∀ n k_ i h w, gq83.l2 (fun y0 y1 y2 => (kke2 y0 y1 y2).bind g) n k_ i h w = (gq83.l2 kke2 n k_ i h w).bind g := by
 intro n
 induction n with
 | zero => intros; rfl
 | succ n ih => intros; simp only [gq83.l2, grd_bind, cnd_bind, bnd_bind, non_bind, ih]
def gq83.l3 {R : Type} (kke4 : List Int → List Int → Option R) : Nat → List Int → Int → List Int → List Int → List Int → Option R
 | 0, _, _, _, _, _ => none
 | n + 1, k_, i, h, w, v =>
  cond (decide (i < (64 : Int))) (
   grd (gIx (4 : Int) (List.length v)) <|
   grd (gIx (0 : Int) (List.length v)) <|
   grd (gIx (7 : Int) (List.length v)) <|
   (gq92 (rdE (.int .u32 : Kd) v (Int.toNat (4 : Int))) (6 : Int)).bind fun r =>
   (gq92 (rdE (.int .u32 : Kd) v (Int.toNat (4 : Int))) (11 : Int)).bind fun r1 =>
   (gq92 (rdE (.int .u32 : Kd) v (Int.toNat (4 : Int))) (25 : Int)).bind fun r2 =>
   grd (gIx (5 : Int) (List.length v)) <|
   grd (gIx (6 : Int) (List.length v)) <|
   grd (gIx i (List.length k_)) <|
   grd (gIx i (List.length w)) <|
   (gq92 (rdE (.int .u32 : Kd) v (Int.toNat (0 : Int))) (2 : Int)).bind fun r3 =>
   (gq92 (rdE (.int .u32 : Kd) v (Int.toNat (0 : Int))) (13 : Int)).bind fun r4 =>
   (gq92 (rdE (.int .u32 : Kd) v (Int.toNat (0 : Int))) (22 : Int)).bind fun r5 =>
   grd (gIx (1 : Int) (List.length v)) <|
   grd (gIx (2 : Int) (List.length v)) <|
   grd (gIx (1 : Int) (List.length v)) <|
   grd (gIx (2 : Int) (List.length v)) <|
   grd (gIx (0 : Int) (List.length v)) <|
   grd (gIx (1 : Int) (List.length v)) <|
   grd (gIx (2 : Int) (List.length v)) <|
   grd (gIx (3 : Int) (List.length v)) <|
   grd (gIx (4 : Int) (List.length v)) <|
   grd (gIx (5 : Int) (List.length v)) <|
   grd (gIx (6 : Int) (List.length v)) <|
   gq83.l3 kke4 n k_ (IntKind.wrap .i64 (i + (1 : Int))) h w [IntKind.wrap .u32 ((IntKind.wrap .u32 ((IntKind.wrap .u32 ((IntKind.wrap .u32 ((IntKind.wrap .u32 ((rdE (.int .u32 : Kd) v (Int.toNat (7 : Int))) + (iXor .u32 (iXor .u32 r r1) r2))) + (iXor .u32 (iAnd .u32 (rdE (.int .u32 : Kd) v (Int.toNat (4 : Int))) (rdE (.int .u32 : Kd) v (Int.toNat (5 : Int)))) (iAnd .u32 (iXor .u32 (IntKind.max .u32) (rdE (.int .u32 : Kd) v (Int.toNat (4 : Int)))) (rdE (.int .u32 : Kd) v (Int.toNat (6 : Int))))))) + (rdE (.int .u32 : Kd) k_ (Int.toNat i)))) + (rdE (.int .u32 : Kd) w (Int.toNat i)))) + (IntKind.wrap .u32 ((iXor .u32 (iXor .u32 r3 r4) r5) + (iXor .u32 (iXor .u32 (iAnd .u32 (rdE (.int .u32 : Kd) v (Int.toNat (0 : Int))) (rdE (.int .u32 : Kd) v (Int.toNat (1 : Int)))) (iAnd .u32 (rdE (.int .u32 : Kd) v (Int.toNat (0 : Int))) (rdE (.int .u32 : Kd) v (Int.toNat (2 : Int))))) (iAnd .u32 (rdE (.int .u32 : Kd) v (Int.toNat (1 : Int))) (rdE (.int .u32 : Kd) v (Int.toNat (2 : Int)))))))), rdE (.int .u32 : Kd) v (Int.toNat (0 : Int)), rdE (.int .u32 : Kd) v (Int.toNat (1 : Int)), rdE (.int .u32 : Kd) v (Int.toNat (2 : Int)), IntKind.wrap .u32 ((rdE (.int .u32 : Kd) v (Int.toNat (3 : Int))) + (IntKind.wrap .u32 ((IntKind.wrap .u32 ((IntKind.wrap .u32 ((IntKind.wrap .u32 ((rdE (.int .u32 : Kd) v (Int.toNat (7 : Int))) + (iXor .u32 (iXor .u32 r r1) r2))) + (iXor .u32 (iAnd .u32 (rdE (.int .u32 : Kd) v (Int.toNat (4 : Int))) (rdE (.int .u32 : Kd) v (Int.toNat (5 : Int)))) (iAnd .u32 (iXor .u32 (IntKind.max .u32) (rdE (.int .u32 : Kd) v (Int.toNat (4 : Int)))) (rdE (.int .u32 : Kd) v (Int.toNat (6 : Int))))))) + (rdE (.int .u32 : Kd) k_ (Int.toNat i)))) + (rdE (.int .u32 : Kd) w (Int.toNat i))))), rdE (.int .u32 : Kd) v (Int.toNat (4 : Int)), rdE (.int .u32 : Kd) v (Int.toNat (5 : Int)), rdE (.int .u32 : Kd) v (Int.toNat (6 : Int))]) (kke4 h v)
theorem gq83.l3_nat {R S : Type} (g : R → Option S) (kke4 : List Int → List Int → Option R) : ∀ n k_ i h w v, gq83.l3 (fun y0 y1 => (kke4 y0 y1).bind g) n k_ i h w v = (gq83.l3 kke4 n k_ i h w v).bind g := by
 intro n
 induction n with
 | zero => intros; rfl
 | succ n ih => intros; simp only [gq83.l3, grd_bind, cnd_bind, bnd_bind, non_bind, ih]
def gq83.l4 {R : Type} (kke6 : List Int → Option R) : Nat → Int → List Int → List Int → Option R
 | 0, _, _, _ => none
 | n + 1, i, h, v =>
  cond (decide (i < (8 : Int))) (
   grd (gIx i (List.length h)) <|
   grd (gIx i (List.length v)) <|
   grd (gIx i (List.length h)) <|
   gq83.l4 kke6 n (IntKind.wrap .i64 (i + (1 : Int))) (setE (.int .u32 : Kd) h (Int.toNat i) (IntKind.wrap .u32 ((rdE (.int .u32 : Kd) h (Int.toNat i)) + (rdE (.int .u32 : Kd) v (Int.toNat i))))) v) (kke6 h)
theorem gq83.l4_nat {R S : Type} (g : R → Option S) (kke6 : List Int → Option R) : ∀ n i h v, gq83.l4 (fun y0 => (kke6 y0).bind g) n i h v = (gq83.l4 kke6 n i h v).bind g := by
 intro n
 induction n with
 | zero => intros; rfl
 | succ n ih => intros; simp only [gq83.l4, grd_bind, cnd_bind, bnd_bind, non_bind, ih]
def gq83.F {R : Type} (kk : List Int → Option R) (h : List Int) (b : List Int) (k_ : List Int) : Option R :=
 grd (gMk (64 : Int) (64 : Int) 4) <|
 gq83.l1 (fun k_1 h1 w =>
  gq83.l2 (fun k_2 h2 w1 =>
   grd (gRm (((List.length ([] : List Int)) + (List.length h2)) * 4)) <|
   gq83.l3 (fun h3 v => gq83.l4 (fun h4 => kk h4) fuel (0 : Int) h3 v) fuel k_2 (0 : Int) h2 w1 (([] : List Int) ++ h2)) fuel k_1 (16 : Int) h1 w) fuel b k_ (0 : Int) h (List.replicate (Int.toNat (64 : Int)) (0 : Int))
theorem gq83.F_nat {R S : Type} (g : R → Option S) (kk : List Int → Option R) (h b k_) : gq83.F (fun y0 => (kk y0).bind g) h b k_ = (gq83.F kk h b k_).bind g := by
 simp only [gq83.F, grd_bind, cnd_bind, bnd_bind, non_bind, ← gq83.l1_nat, ← gq83.l2_nat, ← gq83.l3_nat, ← gq83.l4_nat]
theorem gq83_ex : ∃ f : List Int → List Int → List Int → Option (List Int), f = fun (h : List Int) (b : List Int) (k_ : List Int) => gq83.F (fun y0 => some y0) h b k_ := ⟨_, rfl⟩
noncomputable def gq83 : List Int → List Int → List Int → Option (List Int) := Classical.choose gq83_ex
theorem gq83_eq (h : List Int) (b : List Int) (k_ : List Int) : gq83 h b k_ = gq83.F (fun y0 => some y0) h b k_ := (congrFun (congrFun (congrFun (Classical.choose_spec gq83_ex) h) b) k_)
theorem gq83_nat {S : Type} (g : (List Int) → Option S) (h : List Int) (b : List Int) (k_ : List Int) : gq83.F (fun y0 => g y0) h b k_ = (gq83 h b k_).bind g := by
 rw [gq83_eq]
 exact gq83.F_nat g (fun y0 => some y0) h b k_
def gq83.out : (List Int) → CRes := fun a => ⟨encL SV.enc [] (), [encL SC.enc [.own [] (.int .u32) true] (a, ()), encL SC.enc [] (), encL SC.enc [] ()]⟩
def gq83.ps : List PS := [.val [some ((.int .u32), true)], .val [some ((.int .u8), false)], .val [some ((.int .u32), false)]]
def gq83.sA : List SA := [.v (.one (.own [] (.int .u32) true)), .v (.one (.slv [] (.int .u8))), .v (.one (.slv [] (.int .u32)))]
def gq83.fi : FI := FIs gq83.sA (List Int) (fun t => gq83 t.1 t.2.1 t.2.2.1) gq83.out gq83.ps
def gq83.E : Env := ⟨tt, lkF [(92, gq92.fi)], 222, 1, [], []⟩
def gq83.sh1 : SK := ⟨[.v (.one (.slo 0)), .v (.one (.slv [2] (.int .u8))), .v (.one (.slv [3] (.int .u32))), .v (.one (.slo 1)), .v (.one (.int .i64))], [.arr (.int .u32) [] true, .arr (.int .u32) [] true]⟩
def gq83.sh1e0 : SK := ⟨[.v (.one (.slo 0)), .v (.one (.slv [3] (.int .u32))), .v (.one (.slo 1))], [.arr (.int .u32) [] true, .arr (.int .u32) [] true]⟩
def gq83.ko1 : Ex → List CastAt × List Nat
 | .nrm => ([], [])
 | .ret => ([], [])
 | .ext i => cond (Nat.beq i 0) ([], [0, 2, 6]) ([], [])
def gq83.G1 (n : Nat) (R : Type) (t : gq83.sh1.T) (K : Ex → Kp → Option R) : Option R := gq83.l1 (fun y0 y1 y2 => K (.ext 0) (SK.enc gq83.sh1e0 (((), y0, (), ()), (y1, y2, ())))) n t.1.2.1 t.1.2.2.1 t.1.2.2.2.2.1 t.2.1 t.2.2.1
def gq83.S1 : Sum := ⟨([], [0, 1, 2, 6, 7]), sumF gq83.sh1 (gq83.G1 fuel), gq83.ko1⟩
theorem gq83.ok1 (hE : EOk Try.prog (gq83.E)) : SumOk Try.prog gq83.E (cB (cR (cL (cR (bodyOf Try.f83))))) (gq83.S1) := by
 have hh : HintOk Try.prog gq83.E (cB (cB (cR (cL (cR (bodyOf Try.f83)))))) (.a) := HintOk.n1 (Q := True) (by kernel_rfl) trivial
 have h := loopS (kin := ([], [0, 1, 2, 6, 7])) (kout := gq83.ko1) (sh := gq83.sh1) (F := gq83.G1) (ops_ok (hE.gv _)) (by kernel_rfl) hh (fun _ _ _ => rfl) (fun n R t K => by kernel_rfl) fuel
 exact HintOk.n1 (c := (cB (cR (cL (cR (bodyOf Try.f83)))))) (h := .s (gq83.S1)) (P := Try.prog) (E := gq83.E) (by kernel_rfl) h
def gq83.sh2 : SK := ⟨[.v (.one (.slo 0)), .v (.one (.slv [3] (.int .u32))), .v (.one (.slo 1)), .v (.one (.int .i64))], [.arr (.int .u32) [] true, .arr (.int .u32) [] true]⟩
def gq83.sh2e2 : SK := ⟨[.v (.one (.slo 0)), .v (.one (.slv [3] (.int .u32))), .v (.one (.slo 1))], [.arr (.int .u32) [] true, .arr (.int .u32) [] true]⟩
def gq83.ko2 : Ex → List CastAt × List Nat
 | .nrm => ([], [])
 | .ret => ([], [])
 | .ext i => cond (Nat.beq i 2) ([], [0, 2, 6]) ([], [])
def gq83.G2 (n : Nat) (R : Type) (t : gq83.sh2.T) (K : Ex → Kp → Option R) : Option R := gq83.l2 (fun y0 y1 y2 => K (.ext 2) (SK.enc gq83.sh2e2 (((), y0, (), ()), (y1, y2, ())))) n t.1.2.1 t.1.2.2.2.1 t.2.1 t.2.2.1
def gq83.S2 : Sum := ⟨([], [0, 2, 6, 8]), sumF gq83.sh2 (gq83.G2 fuel), gq83.ko2⟩
theorem gq83.ok2 (hE : EOk Try.prog (gq83.E)) : SumOk Try.prog gq83.E (cB (cR (cL (cR (cR (bodyOf Try.f83)))))) (gq83.S2) := by
 have hh : HintOk Try.prog gq83.E (cB (cB (cR (cL (cR (cR (bodyOf Try.f83))))))) (.a) := HintOk.n1 (Q := True) (by kernel_rfl) trivial
 have h := loopS (kin := ([], [0, 2, 6, 8])) (kout := gq83.ko2) (sh := gq83.sh2) (F := gq83.G2) (ops_ok (hE.gv _)) (by kernel_rfl) hh (fun _ _ _ => rfl) (fun n R t K => by kernel_rfl) fuel
 exact HintOk.n1 (c := (cB (cR (cL (cR (cR (bodyOf Try.f83))))))) (h := .s (gq83.S2)) (P := Try.prog) (E := gq83.E) (by kernel_rfl) h
def gq83.sh3 : SK := ⟨[.v (.one (.slo 0)), .v (.one (.slv [3] (.int .u32))), .v (.one (.slo 1)), .v (.one (.slo 2)), .v (.one (.int .i64))], [.arr (.int .u32) [] true, .arr (.int .u32) [] true, .arr (.int .u32) [] true]⟩
def gq83.sh3e4 : SK := ⟨[.v (.one (.slo 0)), .v (.one (.slo 1))], [.arr (.int .u32) [] true, .arr (.int .u32) [] true]⟩
def gq83.ko3 : Ex → List CastAt × List Nat
 | .nrm => ([], [])
 | .ret => ([], [])
 | .ext i => cond (Nat.beq i 4) ([], [0, 11]) ([], [])
def gq83.G3 (n : Nat) (R : Type) (t : gq83.sh3.T) (K : Ex → Kp → Option R) : Option R := gq83.l3 (fun y0 y1 => K (.ext 4) (SK.enc gq83.sh3e4 (((), (), ()), (y0, y1, ())))) n t.1.2.1 t.1.2.2.2.2.1 t.2.1 t.2.2.1 t.2.2.2.1
def gq83.S3 : Sum := ⟨([], [0, 2, 6, 11, 12]), sumF gq83.sh3 (gq83.G3 fuel), gq83.ko3⟩
theorem gq83.ok3 (hE : EOk Try.prog (gq83.E)) : SumOk Try.prog gq83.E (cB (cR (cL (cR (cR (cR (cR (bodyOf Try.f83)))))))) (gq83.S3) := by
 have hh : HintOk Try.prog gq83.E (cB (cB (cR (cL (cR (cR (cR (cR (bodyOf Try.f83))))))))) (.a) := HintOk.n1 (Q := True) (by kernel_rfl) trivial
 have h := loopS (kin := ([], [0, 2, 6, 11, 12])) (kout := gq83.ko3) (sh := gq83.sh3) (F := gq83.G3) (ops_ok (hE.gv _)) (by kernel_rfl) hh (fun _ _ _ => rfl) (fun n R t K => by kernel_rfl) fuel
 exact HintOk.n1 (c := (cB (cR (cL (cR (cR (cR (cR (bodyOf Try.f83))))))))) (h := .s (gq83.S3)) (P := Try.prog) (E := gq83.E) (by kernel_rfl) h
def gq83.sh4 : SK := ⟨[.v (.one (.slo 0)), .v (.one (.slo 1)), .v (.one (.int .i64))], [.arr (.int .u32) [] true, .arr (.int .u32) [] true]⟩
def gq83.sh4e6 : SK := ⟨[], [.arr (.int .u32) [] true]⟩
def gq83.ko4 : Ex → List CastAt × List Nat
 | .nrm => ([], [])
 | .ret => ([], [])
 | .ext i => cond (Nat.beq i 6) ([], []) ([], [])
def gq83.G4 (n : Nat) (R : Type) (t : gq83.sh4.T) (K : Ex → Kp → Option R) : Option R := gq83.l4 (fun y0 => K (.ext 6) (SK.enc gq83.sh4e6 ((), (y0, ())))) n t.1.2.2.1 t.2.1 t.2.2.1
def gq83.S4 : Sum := ⟨([], [0, 11, 17]), sumF gq83.sh4 (gq83.G4 fuel), gq83.ko4⟩
theorem gq83.ok4 (hE : EOk Try.prog (gq83.E)) : SumOk Try.prog gq83.E (cB (cR (cR (cR (cR (cR (cR (bodyOf Try.f83)))))))) (gq83.S4) := by
 have hh : HintOk Try.prog gq83.E (cB (cB (cR (cR (cR (cR (cR (cR (bodyOf Try.f83))))))))) (.a) := HintOk.n1 (Q := True) (by kernel_rfl) trivial
 have h := loopS (kin := ([], [0, 11, 17])) (kout := gq83.ko4) (sh := gq83.sh4) (F := gq83.G4) (ops_ok (hE.gv _)) (by kernel_rfl) hh (fun _ _ _ => rfl) (fun n R t K => by kernel_rfl) fuel
 exact HintOk.n1 (c := (cB (cR (cR (cR (cR (cR (cR (bodyOf Try.f83))))))))) (h := .s (gq83.S4)) (P := Try.prog) (E := gq83.E) (by kernel_rfl) h
theorem gq83.hok (hE : EOk Try.prog (gq83.E)) : HintOk Try.prog gq83.E (bodyOf Try.f83) (.n (.a) (.n (.n (.a) (.b (.s (gq83.S1)))) (.n (.n (.a) (.b (.s (gq83.S2)))) (.n (.a) (.n (.n (.a) (.b (.s (gq83.S3)))) (.n (.a) (.b (.s (gq83.S4))))))))) := HintOk.n1 (Q := (True) ∧ (((True) ∧ (SumOk Try.prog gq83.E (cB (cR (cL (cR (bodyOf Try.f83))))) (gq83.S1))) ∧ (((True) ∧ (SumOk Try.prog gq83.E (cB (cR (cL (cR (cR (bodyOf Try.f83)))))) (gq83.S2))) ∧ ((True) ∧ (((True) ∧ (SumOk Try.prog gq83.E (cB (cR (cL (cR (cR (cR (cR (bodyOf Try.f83)))))))) (gq83.S3))) ∧ ((True) ∧ (SumOk Try.prog gq83.E (cB (cR (cR (cR (cR (cR (cR (bodyOf Try.f83)))))))) (gq83.S4)))))))) (by kernel_rfl) ⟨trivial, ⟨⟨trivial, (gq83.ok1 hE)⟩, ⟨⟨trivial, (gq83.ok2 hE)⟩, ⟨trivial, ⟨⟨trivial, (gq83.ok3 hE)⟩, ⟨trivial, (gq83.ok4 hE)⟩⟩⟩⟩⟩⟩
theorem gq83.hE : EOk Try.prog (gq83.E) := EOk.of ttOk (⟨gq92.fok, trivial⟩)
theorem gq83.fok : FOk Try.prog 83 gq83.fi :=
 fokS (E := gq83.E) (wy := ⟨[], [[], [], []], []⟩) (h := (fun gs => .n (.a) (.n (.n (.a) (.b (.s (gq83.S1)))) (.n (.n (.a) (.b (.s (gq83.S2)))) (.n (.a) (.n (.n (.a) (.b (.s (gq83.S3)))) (.n (.a) (.b (.s (gq83.S4)))))))))) (G := fun t g => gq83.F (fun y0 => g y0) t.1 t.2.1 t.2.2.1) (by kernel_rfl) gq83.hE Try.func83 (by kernel_rfl) rfl (Nat.le_refl _) (fun t => HintOk.n1 (by kernel_rfl) (gq83.hok gq83.hE)) (fun t g => gq83_nat g t.1 t.2.1 t.2.2.1) (fun t => by kernel_rfl)
def gq63.l1 {R : Type} (kke0 : List Int → List Int → List Int → Option R) : Nat → List Int → List Int → List Int → Option R
 | 0, _, _, _ => none
 | n + 1, b, h, all =>
  grd (gNz (64 : Int)) <|
  cond ((Int.tmod (List.length all : Int) (64 : Int)) != (56 : Int)) (
   grd (gRm (((List.length all) + (List.length [(0 : Int)])) * 1)) <|
   gq63.l1 kke0 n b h (all ++ [(0 : Int)])) (kke0 b h all)
theorem gq63.l1_nat {R S : Type} (g : R → Option S) (kke0 : List Int → List Int → List Int → Option R) : ∀ n b h all, gq63.l1 (fun y0 y1 y2 => (kke0 y0 y1 y2).bind g) n b h all = (gq63.l1 kke0 n b h all).bind g := by
 intro n
 induction n with
 | zero => intros; rfl
 | succ n ih => intros; simp only [gq63.l1, grd_bind, cnd_bind, bnd_bind, non_bind, ih]
def gq63.l2 {R : Type} (kke2 : List Int → List Int → Option R) : Nat → List Int → Int → List Int → List Int → Option R
 | 0, _, _, _, _ => none
 | n + 1, b, i, h, all =>
  cond (decide (i ≥ (0 : Int))) (
   grd (gSh (IntKind.wrap .u64 (IntKind.wrap .i64 ((8 : Int) * i)))) <|
   grd (gRm (((List.length all) + (List.length [IntKind.wrap .u8 (iShr .i64 (IntKind.wrap .i64 ((8 : Int) * (List.length b : Int))) (IntKind.wrap .u64 (IntKind.wrap .i64 ((8 : Int) * i))))])) * 1)) <|
   gq63.l2 kke2 n b (IntKind.wrap .i64 (i - (1 : Int))) h (all ++ [IntKind.wrap .u8 (iShr .i64 (IntKind.wrap .i64 ((8 : Int) * (List.length b : Int))) (IntKind.wrap .u64 (IntKind.wrap .i64 ((8 : Int) * i))))])) (kke2 h all)
theorem gq63.l2_nat {R S : Type} (g : R → Option S) (kke2 : List Int → List Int → Option R) : ∀ n b i h all, gq63.l2 (fun y0 y1 => (kke2 y0 y1).bind g) n b i h all = (gq63.l2 kke2 n b i h all).bind g := by
 intro n
 induction n with
 | zero => intros; rfl
 | succ n ih => intros; simp only [gq63.l2, grd_bind, cnd_bind, bnd_bind, non_bind, ih]
def gq63.l3 {R : Type} (kke4 : List Int → Option R) : Nat → List Int → Int → List Int → List Int → Option R
 | 0, _, _, _, _ => none
 | n + 1, all, i, h, k_ =>
  cond (decide (i < (List.length all : Int))) (
   grd (gSl i (IntKind.wrap .i64 (i + (64 : Int))) (List.length all)) <|
   (gq83 h (sub all i (IntKind.wrap .i64 (i + (64 : Int)))) k_).bind fun r =>
   gq63.l3 kke4 n all (IntKind.wrap .i64 (i + (64 : Int))) r k_) (kke4 h)
theorem gq63.l3_nat {R S : Type} (g : R → Option S) (kke4 : List Int → Option R) : ∀ n all i h k_, gq63.l3 (fun y0 => (kke4 y0).bind g) n all i h k_ = (gq63.l3 kke4 n all i h k_).bind g := by
 intro n
 induction n with
 | zero => intros; rfl
 | succ n ih => intros; simp only [gq63.l3, grd_bind, cnd_bind, bnd_bind, non_bind, ih]
def gq63.l4 {R : Type} (kke6 : List Int → Option R) : Nat → Int → List Int → List Int → Option R
 | 0, _, _, _ => none
 | n + 1, i, h, out =>
  cond (decide (i < (8 : Int))) (
   grd (gIx i (List.length h)) <|
   grd (gSh (24 : Int)) <|
   grd (gIx i (List.length h)) <|
   grd (gSh (16 : Int)) <|
   grd (gIx i (List.length h)) <|
   grd (gSh (8 : Int)) <|
   grd (gIx i (List.length h)) <|
   grd (gRm (((List.length out) + (List.length [IntKind.wrap .u8 (iShr .u32 (rdE (.int .u32 : Kd) h (Int.toNat i)) (24 : Int)), IntKind.wrap .u8 (iShr .u32 (rdE (.int .u32 : Kd) h (Int.toNat i)) (16 : Int)), IntKind.wrap .u8 (iShr .u32 (rdE (.int .u32 : Kd) h (Int.toNat i)) (8 : Int)), IntKind.wrap .u8 (rdE (.int .u32 : Kd) h (Int.toNat i))])) * 1)) <|
   gq63.l4 kke6 n (IntKind.wrap .i64 (i + (1 : Int))) h (out ++ [IntKind.wrap .u8 (iShr .u32 (rdE (.int .u32 : Kd) h (Int.toNat i)) (24 : Int)), IntKind.wrap .u8 (iShr .u32 (rdE (.int .u32 : Kd) h (Int.toNat i)) (16 : Int)), IntKind.wrap .u8 (iShr .u32 (rdE (.int .u32 : Kd) h (Int.toNat i)) (8 : Int)), IntKind.wrap .u8 (rdE (.int .u32 : Kd) h (Int.toNat i))])) (kke6 out)
theorem gq63.l4_nat {R S : Type} (g : R → Option S) (kke6 : List Int → Option R) : ∀ n i h out, gq63.l4 (fun y0 => (kke6 y0).bind g) n i h out = (gq63.l4 kke6 n i h out).bind g := by
 intro n
 induction n with
 | zero => intros; rfl
 | succ n ih => intros; simp only [gq63.l4, grd_bind, cnd_bind, bnd_bind, non_bind, ih]
def gq63.F {R : Type} (kk : ByteArray → Option R) (b : List Int) : Option R :=
 grd (gRm (((List.length ([] : List Int)) + (List.length b)) * 1)) <|
 grd (gRm (((List.length (([] : List Int) ++ b)) + (List.length [(128 : Int)])) * 1)) <|
 gq63.l1 (fun b1 h all =>
  gq63.l2 (fun h1 all1 =>
   (gq82).bind fun r =>
   gq63.l3 (fun h2 => gq63.l4 (fun out => kk (strL out)) fuel (0 : Int) h2 ([] : List Int)) fuel all1 (0 : Int) h1 r) fuel b1 (7 : Int) h all) fuel b [(1779033703 : Int), (3144134277 : Int), (1013904242 : Int), (2773480762 : Int), (1359893119 : Int), (2600822924 : Int), (528734635 : Int), (1541459225 : Int)] ((([] : List Int) ++ b) ++ [(128 : Int)])
theorem gq63.F_nat {R S : Type} (g : R → Option S) (kk : ByteArray → Option R) (b) : gq63.F (fun y0 => (kk y0).bind g) b = (gq63.F kk b).bind g := by
 simp only [gq63.F, grd_bind, cnd_bind, bnd_bind, non_bind, ← gq63.l1_nat, ← gq63.l2_nat, ← gq63.l3_nat, ← gq63.l4_nat]
theorem gq63_ex : ∃ f : List Int → Option ByteArray, f = fun (b : List Int) => gq63.F (fun y0 => some y0) b := ⟨_, rfl⟩
noncomputable def gq63 : List Int → Option ByteArray := Classical.choose gq63_ex
theorem gq63_eq (b : List Int) : gq63 b = gq63.F (fun y0 => some y0) b := (congrFun (Classical.choose_spec gq63_ex) b)
theorem gq63_nat {S : Type} (g : ByteArray → Option S) (b : List Int) : gq63.F (fun y0 => g y0) b = (gq63 b).bind g := by
 rw [gq63_eq]
 exact gq63.F_nat g (fun y0 => some y0) b
def gq63.out : ByteArray → CRes := fun a => ⟨encL SV.enc [.one (.str)] (a, ()), [encL SC.enc [] ()]⟩
def gq63.ps : List PS := [.val [some ((.int .u8), false)]]
def gq63.sA : List SA := [.v (.one (.slv [] (.int .u8)))]
def gq63.fi : FI := FIs gq63.sA (ByteArray) (fun t => gq63 t.1) gq63.out gq63.ps
def gq63.E : Env := ⟨tt, lkF [(82, gq82.fi), (83, gq83.fi)], 86, 0, [], []⟩
def gq63.sh1 : SK := ⟨[.v (.one (.slv [1] (.int .u8))), .v (.one (.slo 0)), .v (.one (.slo 1))], [.arr (.int .u32) [] true, .arr (.int .u8) [] true]⟩
def gq63.sh1e0 : SK := ⟨[.v (.one (.slv [1] (.int .u8))), .v (.one (.slo 0)), .v (.one (.slo 1))], [.arr (.int .u32) [] true, .arr (.int .u8) [] true]⟩
def gq63.ko1 : Ex → List CastAt × List Nat
 | .nrm => ([], [])
 | .ret => ([], [])
 | .ext i => cond (Nat.beq i 0) ([], [0, 3, 4]) ([], [])
def gq63.G1 (n : Nat) (R : Type) (t : gq63.sh1.T) (K : Ex → Kp → Option R) : Option R := gq63.l1 (fun y0 y1 y2 => K (.ext 0) (SK.enc gq63.sh1e0 ((y0, (), (), ()), (y1, y2, ())))) n t.1.1 t.2.1 t.2.2.1
def gq63.S1 : Sum := ⟨([], [0, 3, 4]), sumF gq63.sh1 (gq63.G1 fuel), gq63.ko1⟩
theorem gq63.ok1 (hE : EOk Try.prog (gq63.E)) : SumOk Try.prog gq63.E (cB (cL (cR (cR (cR (bodyOf Try.f63)))))) (gq63.S1) := by
 have hh : HintOk Try.prog gq63.E (cB (cB (cL (cR (cR (cR (bodyOf Try.f63))))))) (.a) := HintOk.n1 (Q := True) (by kernel_rfl) trivial
 have h := loopS (kin := ([], [0, 3, 4])) (kout := gq63.ko1) (sh := gq63.sh1) (F := gq63.G1) (ops_ok (hE.gv _)) (by kernel_rfl) hh (fun _ _ _ => rfl) (fun n R t K => by kernel_rfl) fuel
 exact HintOk.n1 (c := (cB (cL (cR (cR (cR (bodyOf Try.f63))))))) (h := .s (gq63.S1)) (P := Try.prog) (E := gq63.E) (by kernel_rfl) h
def gq63.sh2 : SK := ⟨[.v (.one (.slv [1] (.int .u8))), .v (.one (.slo 0)), .v (.one (.slo 1)), .v (.one (.int .i64))], [.arr (.int .u32) [] true, .arr (.int .u8) [] true]⟩
def gq63.sh2e2 : SK := ⟨[.v (.one (.slo 0)), .v (.one (.slo 1))], [.arr (.int .u32) [] true, .arr (.int .u8) [] true]⟩
def gq63.ko2 : Ex → List CastAt × List Nat
 | .nrm => ([], [])
 | .ret => ([], [])
 | .ext i => cond (Nat.beq i 2) ([], [3, 4]) ([], [])
def gq63.G2 (n : Nat) (R : Type) (t : gq63.sh2.T) (K : Ex → Kp → Option R) : Option R := gq63.l2 (fun y0 y1 => K (.ext 2) (SK.enc gq63.sh2e2 (((), (), ()), (y0, y1, ())))) n t.1.1 t.1.2.2.2.1 t.2.1 t.2.2.1
def gq63.S2 : Sum := ⟨([], [0, 3, 4, 5]), sumF gq63.sh2 (gq63.G2 fuel), gq63.ko2⟩
theorem gq63.ok2 (hE : EOk Try.prog (gq63.E)) : SumOk Try.prog gq63.E (cB (cR (cL (cR (cR (cR (cR (bodyOf Try.f63)))))))) (gq63.S2) := by
 have hh : HintOk Try.prog gq63.E (cB (cB (cR (cL (cR (cR (cR (cR (bodyOf Try.f63))))))))) (.a) := HintOk.n1 (Q := True) (by kernel_rfl) trivial
 have h := loopS (kin := ([], [0, 3, 4, 5])) (kout := gq63.ko2) (sh := gq63.sh2) (F := gq63.G2) (ops_ok (hE.gv _)) (by kernel_rfl) hh (fun _ _ _ => rfl) (fun n R t K => by kernel_rfl) fuel
 exact HintOk.n1 (c := (cB (cR (cL (cR (cR (cR (cR (bodyOf Try.f63))))))))) (h := .s (gq63.S2)) (P := Try.prog) (E := gq63.E) (by kernel_rfl) h
def gq63.sh3 : SK := ⟨[.v (.one (.slo 0)), .v (.one (.slv [0] (.int .u8))), .v (.one (.slo 1)), .v (.one (.int .i64))], [.arr (.int .u32) [] true, .arr (.int .u32) [] true]⟩
def gq63.sh3e4 : SK := ⟨[.v (.one (.slo 0))], [.arr (.int .u32) [] true]⟩
def gq63.ko3 : Ex → List CastAt × List Nat
 | .nrm => ([], [])
 | .ret => ([], [])
 | .ext i => cond (Nat.beq i 4) ([], [3]) ([], [])
def gq63.G3 (n : Nat) (R : Type) (t : gq63.sh3.T) (K : Ex → Kp → Option R) : Option R := gq63.l3 (fun y0 => K (.ext 4) (SK.enc gq63.sh3e4 (((), ()), (y0, ())))) n t.1.2.1 t.1.2.2.2.1 t.2.1 t.2.2.1
def gq63.S3 : Sum := ⟨([⟨4, false, 0, .slv [0] (.int .u8)⟩], [3, 4, 6, 7]), sumF gq63.sh3 (gq63.G3 fuel), gq63.ko3⟩
theorem gq63.ok3 (hE : EOk Try.prog (gq63.E)) : SumOk Try.prog gq63.E (cB (cR (cL (cR (cR (cR (cR (cR (cR (bodyOf Try.f63)))))))))) (gq63.S3) := by
 have hh : HintOk Try.prog gq63.E (cB (cB (cR (cL (cR (cR (cR (cR (cR (cR (bodyOf Try.f63))))))))))) (.a) := HintOk.n1 (Q := True) (by kernel_rfl) trivial
 have h := loopS (kin := ([⟨4, false, 0, .slv [0] (.int .u8)⟩], [3, 4, 6, 7])) (kout := gq63.ko3) (sh := gq63.sh3) (F := gq63.G3) (ops_ok (hE.gv _)) (by kernel_rfl) hh (fun _ _ _ => rfl) (fun n R t K => by kernel_rfl) fuel
 exact HintOk.n1 (c := (cB (cR (cL (cR (cR (cR (cR (cR (cR (bodyOf Try.f63))))))))))) (h := .s (gq63.S3)) (P := Try.prog) (E := gq63.E) (by kernel_rfl) h
def gq63.sh4 : SK := ⟨[.v (.one (.slo 0)), .v (.one (.slo 1)), .v (.one (.int .i64))], [.arr (.int .u32) [] true, .arr (.int .u8) [] true]⟩
def gq63.sh4e6 : SK := ⟨[.v (.one (.slo 0))], [.arr (.int .u8) [] true]⟩
def gq63.ko4 : Ex → List CastAt × List Nat
 | .nrm => ([], [])
 | .ret => ([], [])
 | .ext i => cond (Nat.beq i 6) ([], [8]) ([], [])
def gq63.G4 (n : Nat) (R : Type) (t : gq63.sh4.T) (K : Ex → Kp → Option R) : Option R := gq63.l4 (fun y0 => K (.ext 6) (SK.enc gq63.sh4e6 (((), ()), (y0, ())))) n t.1.2.2.1 t.2.1 t.2.2.1
def gq63.S4 : Sum := ⟨([], [3, 8, 9]), sumF gq63.sh4 (gq63.G4 fuel), gq63.ko4⟩
theorem gq63.ok4 (hE : EOk Try.prog (gq63.E)) : SumOk Try.prog gq63.E (cB (cR (cL (cR (cR (cR (cR (cR (cR (cR (cR (bodyOf Try.f63)))))))))))) (gq63.S4) := by
 have hh : HintOk Try.prog gq63.E (cB (cB (cR (cL (cR (cR (cR (cR (cR (cR (cR (cR (bodyOf Try.f63))))))))))))) (.a) := HintOk.n1 (Q := True) (by kernel_rfl) trivial
 have h := loopS (kin := ([], [3, 8, 9])) (kout := gq63.ko4) (sh := gq63.sh4) (F := gq63.G4) (ops_ok (hE.gv _)) (by kernel_rfl) hh (fun _ _ _ => rfl) (fun n R t K => by kernel_rfl) fuel
 exact HintOk.n1 (c := (cB (cR (cL (cR (cR (cR (cR (cR (cR (cR (cR (bodyOf Try.f63))))))))))))) (h := .s (gq63.S4)) (P := Try.prog) (E := gq63.E) (by kernel_rfl) h
theorem gq63.hok (hE : EOk Try.prog (gq63.E)) : HintOk Try.prog gq63.E (bodyOf Try.f63) (.n (.a) (.n (.a) (.n (.a) (.n (.b (.s (gq63.S1))) (.n (.n (.a) (.b (.s (gq63.S2)))) (.n (.a) (.n (.n (.a) (.b (.s (gq63.S3)))) (.n (.a) (.n (.n (.a) (.b (.s (gq63.S4)))) (.a)))))))))) := HintOk.n1 (Q := (True) ∧ ((True) ∧ ((True) ∧ ((SumOk Try.prog gq63.E (cB (cL (cR (cR (cR (bodyOf Try.f63)))))) (gq63.S1)) ∧ (((True) ∧ (SumOk Try.prog gq63.E (cB (cR (cL (cR (cR (cR (cR (bodyOf Try.f63)))))))) (gq63.S2))) ∧ ((True) ∧ (((True) ∧ (SumOk Try.prog gq63.E (cB (cR (cL (cR (cR (cR (cR (cR (cR (bodyOf Try.f63)))))))))) (gq63.S3))) ∧ ((True) ∧ (((True) ∧ (SumOk Try.prog gq63.E (cB (cR (cL (cR (cR (cR (cR (cR (cR (cR (cR (bodyOf Try.f63)))))))))))) (gq63.S4))) ∧ (True)))))))))) (by kernel_rfl) ⟨trivial, ⟨trivial, ⟨trivial, ⟨(gq63.ok1 hE), ⟨⟨trivial, (gq63.ok2 hE)⟩, ⟨trivial, ⟨⟨trivial, (gq63.ok3 hE)⟩, ⟨trivial, ⟨⟨trivial, (gq63.ok4 hE)⟩, trivial⟩⟩⟩⟩⟩⟩⟩⟩⟩
theorem gq63.hE : EOk Try.prog (gq63.E) := EOk.of ttOk (⟨gq82.fok, ⟨gq83.fok, trivial⟩⟩)
theorem gq63.fok : FOk Try.prog 63 gq63.fi :=
 fokS (E := gq63.E) (wy := ⟨[[none]], [[]], []⟩) (h := (fun gs => .n (.a) (.n (.a) (.n (.a) (.n (.b (.s (gq63.S1))) (.n (.n (.a) (.b (.s (gq63.S2)))) (.n (.a) (.n (.n (.a) (.b (.s (gq63.S3)))) (.n (.a) (.n (.n (.a) (.b (.s (gq63.S4)))) (.a))))))))))) (G := fun t g => gq63.F (fun y0 => g y0) t.1) (by kernel_rfl) gq63.hE Try.func63 (by kernel_rfl) rfl (Nat.le_refl _) (fun t => HintOk.n1 (by kernel_rfl) (gq63.hok gq63.hE)) (fun t g => gq63_nat g t.1) (fun t => by kernel_rfl)
def gq81.F {R : Type} (kk : ByteArray → Option R) (key : ByteArray) : Option R :=
 (gq63 (bytesL key)).bind fun r =>
 kk r
theorem gq81.F_nat {R S : Type} (g : R → Option S) (kk : ByteArray → Option R) (key) : gq81.F (fun y0 => (kk y0).bind g) key = (gq81.F kk key).bind g := by
 simp only [gq81.F, grd_bind, cnd_bind, bnd_bind, non_bind]
def gq81 (key : ByteArray) : Option ByteArray := gq81.F (fun y0 => some y0) key
def gq81.out : ByteArray → CRes := fun a => ⟨encL SV.enc [.one (.str)] (a, ()), [encL SC.enc [] ()]⟩
def gq81.ps : List PS := [.val [none]]
def gq81.sA : List SA := [.v (.one (.str))]
def gq81.fi : FI := FIs gq81.sA (ByteArray) (fun t => gq81 t.1) gq81.out gq81.ps
def gq81.E : Env := ⟨tt, lkF [(63, gq63.fi)], 6, 0, [], []⟩
theorem gq81.hok (hE : EOk Try.prog (gq81.E)) : HintOk Try.prog gq81.E (bodyOf Try.f81) (.a) := HintOk.n1 (Q := True) (by kernel_rfl) trivial
theorem gq81.hE : EOk Try.prog (gq81.E) := EOk.of ttOk (⟨gq63.fok, trivial⟩)
theorem gq81.fok : FOk Try.prog 81 gq81.fi :=
 fokS (E := gq81.E) (wy := ⟨[[none]], [[]], []⟩) (h := (fun gs => .a)) (G := fun t g => gq81.F (fun y0 => g y0) t.1) (by kernel_rfl) gq81.hE Try.func81 (by kernel_rfl) rfl (Nat.le_refl _) (fun t => HintOk.n1 (by kernel_rfl) (gq81.hok gq81.hE)) (fun t g => gq81.F_nat g (fun y0 => some y0) _) (fun t => by kernel_rfl)
def gq62.l1 {R : Type} (rc : ByteArray → ByteArray → Int → List (El kk8eb) → Int → ByteArray → Int → Option Int) (kke0 : ByteArray → Int → ByteArray → ByteArray → Int → List (El kk8eb) → ByteArray → ByteArray → Int → List (El kk8eb) → Option R) : Nat → ByteArray → Int → Int → ByteArray → ByteArray → Int → List (El kk8eb) → ByteArray → ByteArray → Int → List (El kk8eb) → Option R
 | 0, _, _, _, _, _, _, _, _, _, _, _ => none
 | n + 1, prefix_, left, i, b, b1, b2, b3, f, f1, f2, f3 =>
  cond (decide (i < (256 : Int))) (
   (gq65 f f1 f2 f3).bind fun r =>
   cond (!r) (
    grd (gIx (0 : Int) (List.length f3)) <|
    gq62.l1 rc kke0 n prefix_ left (IntKind.wrap .i64 (i + (1 : Int))) b b1 b2 b3 (Tree.val (rdE kk8eb f3 (Int.toNat (0 : Int)))).1 (Tree.val (rdE kk8eb f3 (Int.toNat (0 : Int)))).2.1 (Tree.val (rdE kk8eb f3 (Int.toNat (0 : Int)))).2.2 (Tree.kids (rdE kk8eb f3 (Int.toNat (0 : Int))))) (kke0 prefix_ left b b1 b2 b3 f f1 f2 f3)) (kke0 prefix_ left b b1 b2 b3 f f1 f2 f3)
theorem gq62.l1_nat {R S : Type} (g : R → Option S) (rc : ByteArray → ByteArray → Int → List (El kk8eb) → Int → ByteArray → Int → Option Int) (kke0 : ByteArray → Int → ByteArray → ByteArray → Int → List (El kk8eb) → ByteArray → ByteArray → Int → List (El kk8eb) → Option R) : ∀ n prefix_ left i b b1 b2 b3 f f1 f2 f3, gq62.l1 rc (fun y0 y1 y2 y3 y4 y5 y6 y7 y8 y9 => (kke0 y0 y1 y2 y3 y4 y5 y6 y7 y8 y9).bind g) n prefix_ left i b b1 b2 b3 f f1 f2 f3 = (gq62.l1 rc kke0 n prefix_ left i b b1 b2 b3 f f1 f2 f3).bind g := by
 intro n
 induction n with
 | zero => intros; rfl
 | succ n ih => intros; simp only [gq62.l1, grd_bind, cnd_bind, bnd_bind, non_bind, ih]
def gq62.l2 {R : Type} (rc : ByteArray → ByteArray → Int → List (El kk8eb) → Int → ByteArray → Int → Option Int) (kke2 : Int → Option R) (kkr : Int → Option R) : Nat → Int → ByteArray → Int → Int → ByteArray → ByteArray → Int → List (El kk8eb) → Option R
 | 0, _, _, _, _, _, _, _, _ => none
 | n + 1, left, bits, n_, i, b, b1, b2, b3 =>
  cond (decide (i < (2 : Int))) (
   grd (gIx i (List.length b3)) <|
   grd (gCat bits (strL [IntKind.wrap .u8 ((48 : Int) + (IntKind.wrap .u8 i))])) <|
   (rc ((Tree.val (rdE kk8eb b3 (Int.toNat i))).1) ((Tree.val (rdE kk8eb b3 (Int.toNat i))).2.1) ((Tree.val (rdE kk8eb b3 (Int.toNat i))).2.2) (Tree.kids (rdE kk8eb b3 (Int.toNat i))) (IntKind.wrap .i64 (b2 + (1 : Int))) (bits ++ (strL [IntKind.wrap .u8 ((48 : Int) + (IntKind.wrap .u8 i))])) (IntKind.wrap .i64 (left - n_))).bind fun r =>
   cond (decide (r < (0 : Int))) (kkr (-1 : Int)) (
    gq62.l2 rc kke2 kkr n left bits (IntKind.wrap .i64 (n_ + r)) (IntKind.wrap .i64 (i + (1 : Int))) b b1 b2 b3)) (kke2 n_)
theorem gq62.l2_nat {R S : Type} (g : R → Option S) (rc : ByteArray → ByteArray → Int → List (El kk8eb) → Int → ByteArray → Int → Option Int) (kke2 : Int → Option R) (kkr : Int → Option R) : ∀ n left bits n_ i b b1 b2 b3, gq62.l2 rc (fun y0 => (kke2 y0).bind g) (fun y0 => (kkr y0).bind g) n left bits n_ i b b1 b2 b3 = (gq62.l2 rc kke2 kkr n left bits n_ i b b1 b2 b3).bind g := by
 intro n
 induction n with
 | zero => intros; rfl
 | succ n ih => intros; simp only [gq62.l2, grd_bind, cnd_bind, bnd_bind, non_bind, ih]
def gq62.F {R : Type} (rc : ByteArray → ByteArray → Int → List (El kk8eb) → Int → ByteArray → Int → Option Int) (kk : Int → Option R) (b_Key : ByteArray) (b_Value : ByteArray) (b_At : Int) (b_Kids : List (El kk8eb)) (from_ : Int) (prefix_ : ByteArray) (left : Int) : Option R :=
 cond (decide (left < (1 : Int))) (kk (-1 : Int)) (
  (gq65 b_Key b_Value b_At b_Kids).bind fun r =>
  cond (r) (
   (gq79 b_Key).bind fun r1 =>
   cond (!r1) (kk (-1 : Int)) (
    cond (decide ((ByteArray.size b_Value : Int) > (60 : Int))) (kk (-1 : Int)) (
     cond (b_At != (256 : Int)) (kk (-1 : Int)) (
      (gq81 b_Key).bind fun r2 =>
      (gq80 r2).bind fun r3 =>
      grd (gSl (0 : Int) (ByteArray.size prefix_ : Int) (ByteArray.size r3)) <|
      cond (!(sEq (cut r3 (0 : Int) (ByteArray.size prefix_ : Int)) prefix_)) (kk (-1 : Int)) (kk (1 : Int)))))) (
   cond ((List.length b_Kids : Int) != (2 : Int)) (kk (-1 : Int)) (
    cond (!(sEq b_Key ByteArray.empty)) (kk (-1 : Int)) (
     cond (!(sEq b_Value ByteArray.empty)) (kk (-1 : Int)) (
      (gq32 b_At from_ (255 : Int)).bind fun r4 =>
      cond (!r4) (kk (-1 : Int)) (
       grd (gIx (0 : Int) (List.length b_Kids)) <|
       gq62.l1 rc (fun prefix_1 left1 b b1 b2 b3 f f1 f2 f3 =>
        (gq65 f f1 f2 f3).bind fun r5 =>
        cond (!r5) (kk (-1 : Int)) (
         (gq79 f).bind fun r6 =>
         cond (!r6) (kk (-1 : Int)) (
          (gq81 f).bind fun r7 =>
          (gq80 r7).bind fun r8 =>
          grd (gSl (0 : Int) b2 (ByteArray.size r8)) <|
          cond (decide ((ByteArray.size prefix_1 : Int) > (ByteArray.size (cut r8 (0 : Int) b2) : Int))) (kk (-1 : Int)) (
           grd (gSl (0 : Int) (ByteArray.size prefix_1 : Int) (ByteArray.size (cut r8 (0 : Int) b2))) <|
           cond (!(sEq (cut (cut r8 (0 : Int) b2) (0 : Int) (ByteArray.size prefix_1 : Int)) prefix_1)) (kk (-1 : Int)) (
            gq62.l2 rc (fun n_ => kk n_) (fun i => kk i) fuel left1 (cut r8 (0 : Int) b2) (0 : Int) (0 : Int) b b1 b2 b3))))) fuel prefix_ left (0 : Int) b_Key b_Value b_At b_Kids (Tree.val (rdE kk8eb b_Kids (Int.toNat (0 : Int)))).1 (Tree.val (rdE kk8eb b_Kids (Int.toNat (0 : Int)))).2.1 (Tree.val (rdE kk8eb b_Kids (Int.toNat (0 : Int)))).2.2 (Tree.kids (rdE kk8eb b_Kids (Int.toNat (0 : Int))))))))))
theorem gq62.F_nat {R S : Type} (g : R → Option S) (rc : ByteArray → ByteArray → Int → List (El kk8eb) → Int → ByteArray → Int → Option Int) (kk : Int → Option R) (b_Key b_Value b_At b_Kids from_ prefix_ left) : gq62.F rc (fun y0 => (kk y0).bind g) b_Key b_Value b_At b_Kids from_ prefix_ left = (gq62.F rc kk b_Key b_Value b_At b_Kids from_ prefix_ left).bind g := by
 simp only [gq62.F, grd_bind, cnd_bind, bnd_bind, non_bind, ← gq62.l1_nat, ← gq62.l2_nat]
def gq62 : Nat → ByteArray → ByteArray → Int → List (El kk8eb) → Int → ByteArray → Int → Option Int
 | 0, _, _, _, _, _, _, _ => none
 | fu + 1, b_Key, b_Value, b_At, b_Kids, from_, prefix_, left => gq62.F (gq62 fu) (fun y0 => some y0) b_Key b_Value b_At b_Kids from_ prefix_ left
theorem gq62_nat {S : Type} (fu : Nat) (g : Int → Option S) (b_Key : ByteArray) (b_Value : ByteArray) (b_At : Int) (b_Kids : List (El kk8eb)) (from_ : Int) (prefix_ : ByteArray) (left : Int) : gq62.F (gq62 fu) (fun y0 => g y0) b_Key b_Value b_At b_Kids from_ prefix_ left = (gq62 (fu + 1) b_Key b_Value b_At b_Kids from_ prefix_ left).bind g := gq62.F_nat g (gq62 fu) (fun y0 => some y0) b_Key b_Value b_At b_Kids from_ prefix_ left
def gq62.out : Int → CRes := fun a => ⟨encL SV.enc [.one (.int .i64)] (a, ()), [encL SC.enc [] (), encL SC.enc [] (), encL SC.enc [] (), encL SC.enc [] ()]⟩
def gq62.ps : List PS := [.val [none, none, none, some (kk8eb, false)], .val [none], .val [none], .val [none]]
def gq62.sA : List SA := [.v (.agg [.str, .str, .int .i64, .slv [] kk8eb]), .v (.one (.int .i64)), .v (.one (.str)), .v (.one (.int .i64))]
def gq62.fi (fu : Nat) : FI := FIs gq62.sA (Int) (fun t => gq62 fu t.1.1 t.1.2.1 t.1.2.2.1 t.1.2.2.2.1 t.2.1 t.2.2.1 t.2.2.2.1) gq62.out gq62.ps
def gq62.E (fu : Nat) : Env := ⟨tt, lkF [(32, gq32.fi), (62, gq62.fi fu), (65, gq65.fi), (79, gq79.fi), (80, gq80.fi), (81, gq81.fi)], 141, 0, [], []⟩
def gq62.sh1 : SK := ⟨[.v (.one (.str)), .v (.one (.int .i64)), .v (.one (.bptr 0 0)), .v (.one (.bptr 1 0)), .v (.one (.int .i64))], [.box [.str, .str, .int .i64, .slv [1] kk8eb], .box [.str, .str, .int .i64, .slv [1] kk8eb]]⟩
def gq62.sh1e0 : SK := ⟨[.v (.one (.str)), .v (.one (.int .i64)), .v (.one (.bptr 0 0)), .v (.one (.bptr 1 0))], [.box [.str, .str, .int .i64, .slv [1] kk8eb], .box [.str, .str, .int .i64, .slv [1] kk8eb]]⟩
def gq62.ko1 : Ex → List CastAt × List Nat
 | .nrm => ([], [])
 | .ret => ([], [])
 | .ext i => cond (Nat.beq i 0) ([], [2, 3, 4, 9]) ([], [])
def gq62.G1 (fu : Nat) (n : Nat) (R : Type) (t : gq62.sh1.T) (K : Ex → Kp → Option R) : Option R := gq62.l1 (gq62 fu) (fun y0 y1 y2 y3 y4 y5 y6 y7 y8 y9 => K (.ext 0) (SK.enc gq62.sh1e0 ((y0, y1, (), (), ()), ((y2, y3, y4, y5, ()), (y6, y7, y8, y9, ()), ())))) n t.1.1 t.1.2.1 t.1.2.2.2.2.1 t.2.1.1 t.2.1.2.1 t.2.1.2.2.1 t.2.1.2.2.2.1 t.2.2.1.1 t.2.2.1.2.1 t.2.2.1.2.2.1 t.2.2.1.2.2.2.1
def gq62.S1 (fu : Nat) : Sum := ⟨([], [2, 3, 4, 9, 10]), sumF gq62.sh1 (gq62.G1 fu fuel), gq62.ko1⟩
theorem gq62.ok1 (fu : Nat) (hE : EOk Try.prog (gq62.E fu)) : SumOk Try.prog (gq62.E fu) (cB (cR (cL (cR (cR (cR (cR (cR (bodyOf Try.f62))))))))) (gq62.S1 fu) := by
 have hh : HintOk Try.prog (gq62.E fu) (cB (cB (cR (cL (cR (cR (cR (cR (cR (bodyOf Try.f62)))))))))) (.a) := HintOk.n1 (Q := True) (by kernel_rfl) trivial
 have h := loopS (kin := ([], [2, 3, 4, 9, 10])) (kout := gq62.ko1) (sh := gq62.sh1) (F := gq62.G1 fu) (ops_ok (hE.gv _)) (by kernel_rfl) hh (fun _ _ _ => rfl) (fun n R t K => by kernel_rfl) fuel
 exact HintOk.n1 (c := (cB (cR (cL (cR (cR (cR (cR (cR (bodyOf Try.f62)))))))))) (h := .s (gq62.S1 fu)) (P := Try.prog) (E := (gq62.E fu)) (by kernel_rfl) h
def gq62.sh2 : SK := ⟨[.v (.one (.int .i64)), .v (.one (.bptr 0 0)), .v (.one (.str)), .v (.one (.int .i64)), .v (.one (.int .i64))], [.box [.str, .str, .int .i64, .slv [1] kk8eb]]⟩
def gq62.sh2e2 : SK := ⟨[.v (.one (.int .i64))], []⟩
def gq62.sh2r : SK := ⟨[.v (.one (.int .i64))], []⟩
def gq62.ko2 : Ex → List CastAt × List Nat
 | .nrm => ([], [])
 | .ret => ([], [8])
 | .ext i => cond (Nat.beq i 2) ([], [12]) ([], [])
def gq62.G2 (fu : Nat) (n : Nat) (R : Type) (t : gq62.sh2.T) (K : Ex → Kp → Option R) : Option R := gq62.l2 (gq62 fu) (fun y0 => K (.ext 2) (SK.enc gq62.sh2e2 ((y0, ()), ()))) (fun y0 => K .ret (SK.enc gq62.sh2r ((y0, ()), ()))) n t.1.1 t.1.2.2.1 t.1.2.2.2.1 t.1.2.2.2.2.1 t.2.1.1 t.2.1.2.1 t.2.1.2.2.1 t.2.1.2.2.2.1
def gq62.S2 (fu : Nat) : Sum := ⟨([], [3, 4, 11, 12, 13]), sumF gq62.sh2 (gq62.G2 fu fuel), gq62.ko2⟩
theorem gq62.ok2 (fu : Nat) (hE : EOk Try.prog (gq62.E fu)) : SumOk Try.prog (gq62.E fu) (cB (cR (cL (cR (cR (cR (cR (cR (cR (cR (cR (cR (cR (bodyOf Try.f62)))))))))))))) (gq62.S2 fu) := by
 have hh : HintOk Try.prog (gq62.E fu) (cB (cB (cR (cL (cR (cR (cR (cR (cR (cR (cR (cR (cR (cR (bodyOf Try.f62))))))))))))))) (.a) := HintOk.n1 (Q := True) (by kernel_rfl) trivial
 have h := loopS (kin := ([], [3, 4, 11, 12, 13])) (kout := gq62.ko2) (sh := gq62.sh2) (F := gq62.G2 fu) (ops_ok (hE.gv _)) (by kernel_rfl) hh (fun _ _ _ => rfl) (fun n R t K => by kernel_rfl) fuel
 exact HintOk.n1 (c := (cB (cR (cL (cR (cR (cR (cR (cR (cR (cR (cR (cR (cR (bodyOf Try.f62))))))))))))))) (h := .s (gq62.S2 fu)) (P := Try.prog) (E := (gq62.E fu)) (by kernel_rfl) h
theorem gq62.hok (fu : Nat) (hE : EOk Try.prog (gq62.E fu)) : HintOk Try.prog (gq62.E fu) (bodyOf Try.f62) (.n (.a) (.n (.a) (.n (.a) (.n (.a) (.n (.a) (.n (.n (.a) (.b (.s (gq62.S1 fu)))) (.n (.a) (.n (.a) (.n (.a) (.n (.a) (.n (.n (.a) (.b (.s (gq62.S2 fu)))) (.a)))))))))))) := HintOk.n1 (Q := (True) ∧ ((True) ∧ ((True) ∧ ((True) ∧ ((True) ∧ (((True) ∧ (SumOk Try.prog (gq62.E fu) (cB (cR (cL (cR (cR (cR (cR (cR (bodyOf Try.f62))))))))) (gq62.S1 fu))) ∧ ((True) ∧ ((True) ∧ ((True) ∧ ((True) ∧ (((True) ∧ (SumOk Try.prog (gq62.E fu) (cB (cR (cL (cR (cR (cR (cR (cR (cR (cR (cR (cR (cR (bodyOf Try.f62)))))))))))))) (gq62.S2 fu))) ∧ (True)))))))))))) (by kernel_rfl) ⟨trivial, ⟨trivial, ⟨trivial, ⟨trivial, ⟨trivial, ⟨⟨trivial, (gq62.ok1 fu hE)⟩, ⟨trivial, ⟨trivial, ⟨trivial, ⟨trivial, ⟨⟨trivial, (gq62.ok2 fu hE)⟩, trivial⟩⟩⟩⟩⟩⟩⟩⟩⟩⟩⟩
theorem gq62.fok0 : FOk Try.prog 62 (gq62.fi 0) := FOk.zero ⟨_, _, Try.func62, by kernel_rfl, rfl⟩ (fun _ => rfl)
theorem gq62.fok1 (fu : Nat) (ih : FOk Try.prog 62 (gq62.fi fu)) : FOk Try.prog 62 (gq62.fi (fu + 1)) := by
 have hE : EOk Try.prog (gq62.E fu) := EOk.of ttOk (⟨gq32.fok, ⟨ih, ⟨gq65.fok, ⟨gq79.fok, ⟨gq80.fok, ⟨gq81.fok, trivial⟩⟩⟩⟩⟩⟩)
 exact fokS (E := gq62.E fu) (wy := ⟨[[none]], [[], [], [], []], []⟩) (h := (fun gs => .n (.a) (.n (.a) (.n (.a) (.n (.a) (.n (.a) (.n (.n (.a) (.b (.s (gq62.S1 fu)))) (.n (.a) (.n (.a) (.n (.a) (.n (.a) (.n (.n (.a) (.b (.s (gq62.S2 fu)))) (.a))))))))))))) (G := fun t g => gq62.F (gq62 fu) (fun y0 => g y0) t.1.1 t.1.2.1 t.1.2.2.1 t.1.2.2.2.1 t.2.1 t.2.2.1 t.2.2.2.1) (by kernel_rfl) hE Try.func62 (by kernel_rfl) rfl (Nat.le_refl _) (fun t => HintOk.n1 (by kernel_rfl) (gq62.hok fu hE)) (fun t g => gq62_nat fu g t.1.1 t.1.2.1 t.1.2.2.1 t.1.2.2.2.1 t.2.1 t.2.2.1 t.2.2.2.1) (fun t => by kernel_rfl)
theorem gq62.fok (fu : Nat) : FOk Try.prog 62 (gq62.fi fu) := Nat.rec gq62.fok0 gq62.fok1 fu
def gq44.F {R : Type} (kk : Bool → Option R) (b_Key : ByteArray) (b_Value : ByteArray) (b_At : Int) (b_Kids : List (El kk8eb)) : Option R :=
 (gq61 b_Key b_Value b_At b_Kids).bind fun r =>
 cond (r) (kk true) (
  (gq62 fuel b_Key b_Value b_At b_Kids (0 : Int) ByteArray.empty (40 : Int)).bind fun r1 =>
  kk (decide (r1 > (0 : Int))))
theorem gq44.F_nat {R S : Type} (g : R → Option S) (kk : Bool → Option R) (b_Key b_Value b_At b_Kids) : gq44.F (fun y0 => (kk y0).bind g) b_Key b_Value b_At b_Kids = (gq44.F kk b_Key b_Value b_At b_Kids).bind g := by
 simp only [gq44.F, grd_bind, cnd_bind, bnd_bind, non_bind]
def gq44 (b_Key : ByteArray) (b_Value : ByteArray) (b_At : Int) (b_Kids : List (El kk8eb)) : Option Bool := gq44.F (fun y0 => some y0) b_Key b_Value b_At b_Kids
def gq44.out : Bool → CRes := fun a => ⟨encL SV.enc [.one (.bool)] (a, ()), [encL SC.enc [] ()]⟩
def gq44.ps : List PS := [.val [none, none, none, some (kk8eb, false)]]
def gq44.sA : List SA := [.v (.agg [.str, .str, .int .i64, .slv [] kk8eb])]
def gq44.fi : FI := FIs gq44.sA (Bool) (fun t => gq44 t.1.1 t.1.2.1 t.1.2.2.1 t.1.2.2.2.1) gq44.out gq44.ps
def gq44.E : Env := ⟨tt, lkF [(61, gq61.fi), (62, gq62.fi fuel)], 10, 0, [], []⟩
theorem gq44.hok (hE : EOk Try.prog (gq44.E)) : HintOk Try.prog gq44.E (bodyOf Try.f44) (.a) := HintOk.n1 (Q := True) (by kernel_rfl) trivial
theorem gq44.hE : EOk Try.prog (gq44.E) := EOk.of ttOk (⟨gq61.fok, ⟨gq62.fok fuel, trivial⟩⟩)
theorem gq44.fok : FOk Try.prog 44 gq44.fi :=
 fokS (E := gq44.E) (wy := ⟨[[none]], [[]], []⟩) (h := (fun gs => .a)) (G := fun t g => gq44.F (fun y0 => g y0) t.1.1 t.1.2.1 t.1.2.2.1 t.1.2.2.2.1) (by kernel_rfl) gq44.hE Try.func44 (by kernel_rfl) rfl (Nat.le_refl _) (fun t => HintOk.n1 (by kernel_rfl) (gq44.hok gq44.hE)) (fun t g => gq44.F_nat g (fun y0 => some y0) _ _ _ _) (fun t => by kernel_rfl)
def gq23.l1 {R : Type} (kke0 : Option R) (kkr : Bool → Option R) : Nat → Int → List ByteArray → ByteArray → ByteArray → Int → List (El kk8eb) → List (El kkb2) → Option R
 | 0, _, _, _, _, _, _, _ => none
 | n + 1, i, l, l1, l2, l3, l4, l5 =>
  cond (decide (i < (List.length l5 : Int))) (
   grd (gIx i (List.length l5)) <|
   (gq32 ((rdE kkb2 l5 (Int.toNat i)).1) (0 : Int) (65535 : Int)).bind fun r =>
   cond (!r) (kkr false) (
    (gq32 ((rdE kkb2 l5 (Int.toNat i)).2.1) (0 : Int) (65535 : Int)).bind fun r1 =>
    cond (!r1) (kkr false) (
     cond (decide (i > (0 : Int))) (
      grd (gIx (IntKind.wrap .i64 (i - (1 : Int))) (List.length l5)) <|
      cond (decide ((rdE kkb2 l5 (Int.toNat (IntKind.wrap .i64 (i - (1 : Int))))).1 ≥ (rdE kkb2 l5 (Int.toNat i)).1)) (kkr false) (
       (gq32 ((rdE kkb2 l5 (Int.toNat i)).2.2.1) (0 : Int) (6 : Int)).bind fun r2 =>
       cond (!r2) (kkr false) (
        (gq32 ((rdE kkb2 l5 (Int.toNat i)).2.2.2.1) (0 : Int) (50 : Int)).bind fun r3 =>
        cond (!r3) (kkr false) (
         cond (decide ((ByteArray.size (rdE kkb2 l5 (Int.toNat i)).2.2.2.2 : Int) > (60 : Int))) (kkr false) (gq23.l1 kke0 kkr n (IntKind.wrap .i64 (i + (1 : Int))) l l1 l2 l3 l4 l5))))) (
      (gq32 ((rdE kkb2 l5 (Int.toNat i)).2.2.1) (0 : Int) (6 : Int)).bind fun r4 =>
      cond (!r4) (kkr false) (
       (gq32 ((rdE kkb2 l5 (Int.toNat i)).2.2.2.1) (0 : Int) (50 : Int)).bind fun r5 =>
       cond (!r5) (kkr false) (
        cond (decide ((ByteArray.size (rdE kkb2 l5 (Int.toNat i)).2.2.2.2 : Int) > (60 : Int))) (kkr false) (gq23.l1 kke0 kkr n (IntKind.wrap .i64 (i + (1 : Int))) l l1 l2 l3 l4 l5))))))) (kke0)
theorem gq23.l1_nat {R S : Type} (g : R → Option S) (kke0 : Option R) (kkr : Bool → Option R) : ∀ n i l l1 l2 l3 l4 l5, gq23.l1 (kke0.bind g) (fun y0 => (kkr y0).bind g) n i l l1 l2 l3 l4 l5 = (gq23.l1 kke0 kkr n i l l1 l2 l3 l4 l5).bind g := by
 intro n
 induction n with
 | zero => intros; rfl
 | succ n ih => intros; simp only [gq23.l1, grd_bind, cnd_bind, bnd_bind, non_bind, ih]
def gq23.F {R : Type} (kk : Bool → Option R) (l_Leaves : List ByteArray) (l_Map_Key : ByteArray) (l_Map_Value : ByteArray) (l_Map_At : Int) (l_Map_Kids : List (El kk8eb)) (l_Sessions : List (El kkb2)) : Option R :=
 cond (decide ((List.length l_Leaves : Int) > (50 : Int))) (kk false) (
  (gq43 l_Leaves).bind fun r =>
  cond (!r) (kk false) (
   (gq44 l_Map_Key l_Map_Value l_Map_At l_Map_Kids).bind fun r1 =>
   cond (!r1) (kk false) (
    cond (decide ((List.length l_Sessions : Int) > (8 : Int))) (kk false) (
     gq23.l1 (kk true) (fun b => kk b) fuel (0 : Int) l_Leaves l_Map_Key l_Map_Value l_Map_At l_Map_Kids l_Sessions))))
theorem gq23.F_nat {R S : Type} (g : R → Option S) (kk : Bool → Option R) (l_Leaves l_Map_Key l_Map_Value l_Map_At l_Map_Kids l_Sessions) : gq23.F (fun y0 => (kk y0).bind g) l_Leaves l_Map_Key l_Map_Value l_Map_At l_Map_Kids l_Sessions = (gq23.F kk l_Leaves l_Map_Key l_Map_Value l_Map_At l_Map_Kids l_Sessions).bind g := by
 simp only [gq23.F, grd_bind, cnd_bind, bnd_bind, non_bind, ← gq23.l1_nat]
def gq23 (l_Leaves : List ByteArray) (l_Map_Key : ByteArray) (l_Map_Value : ByteArray) (l_Map_At : Int) (l_Map_Kids : List (El kk8eb)) (l_Sessions : List (El kkb2)) : Option Bool := gq23.F (fun y0 => some y0) l_Leaves l_Map_Key l_Map_Value l_Map_At l_Map_Kids l_Sessions
def gq23.out : Bool → CRes := fun a => ⟨encL SV.enc [.one (.bool)] (a, ()), [encL SC.enc [] ()]⟩
def gq23.ps : List PS := [.val [some (.str, false), none, none, none, some (kk8eb, false), some (kkb2, false)]]
def gq23.sA : List SA := [.v (.agg [.slv [] .str, .str, .str, .int .i64, .slv [] kk8eb, .slv [] kkb2])]
def gq23.fi : FI := FIs gq23.sA (Bool) (fun t => gq23 t.1.1 t.1.2.1 t.1.2.2.1 t.1.2.2.2.1 t.1.2.2.2.2.1 t.1.2.2.2.2.2.1) gq23.out gq23.ps
def gq23.E : Env := ⟨tt, lkF [(32, gq32.fi), (43, gq43.fi), (44, gq44.fi)], 86, 0, [], []⟩
def gq23.sh1 : SK := ⟨[.v (.one (.bptr 0 0)), .v (.one (.int .i64))], [.box [.slv [1] .str, .str, .str, .int .i64, .slv [1] kk8eb, .slv [1] kkb2]]⟩
def gq23.sh1e0 : SK := ⟨[], []⟩
def gq23.sh1r : SK := ⟨[.v (.one (.bool))], []⟩
def gq23.ko1 : Ex → List CastAt × List Nat
 | .nrm => ([], [])
 | .ret => ([], [2])
 | .ext i => cond (Nat.beq i 0) ([], []) ([], [])
def gq23.G1 (n : Nat) (R : Type) (t : gq23.sh1.T) (K : Ex → Kp → Option R) : Option R := gq23.l1 (K (.ext 0) (SK.enc gq23.sh1e0 ((), ()))) (fun y0 => K .ret (SK.enc gq23.sh1r ((y0, ()), ()))) n t.1.2.1 t.2.1.1 t.2.1.2.1 t.2.1.2.2.1 t.2.1.2.2.2.1 t.2.1.2.2.2.2.1 t.2.1.2.2.2.2.2.1
def gq23.S1 : Sum := ⟨([], [1, 3]), sumF gq23.sh1 (gq23.G1 fuel), gq23.ko1⟩
theorem gq23.ok1 (hE : EOk Try.prog (gq23.E)) : SumOk Try.prog gq23.E (cB (cR (cL (cR (cR (bodyOf Try.f23)))))) (gq23.S1) := by
 have hh : HintOk Try.prog gq23.E (cB (cB (cR (cL (cR (cR (bodyOf Try.f23))))))) (.a) := HintOk.n1 (Q := True) (by kernel_rfl) trivial
 have h := loopS (kin := ([], [1, 3])) (kout := gq23.ko1) (sh := gq23.sh1) (F := gq23.G1) (ops_ok (hE.gv _)) (by kernel_rfl) hh (fun _ _ _ => rfl) (fun n R t K => by kernel_rfl) fuel
 exact HintOk.n1 (c := (cB (cR (cL (cR (cR (bodyOf Try.f23))))))) (h := .s (gq23.S1)) (P := Try.prog) (E := gq23.E) (by kernel_rfl) h
theorem gq23.hok (hE : EOk Try.prog (gq23.E)) : HintOk Try.prog gq23.E (bodyOf Try.f23) (.n (.a) (.n (.a) (.n (.n (.a) (.b (.s (gq23.S1)))) (.a)))) := HintOk.n1 (Q := (True) ∧ ((True) ∧ (((True) ∧ (SumOk Try.prog gq23.E (cB (cR (cL (cR (cR (bodyOf Try.f23)))))) (gq23.S1))) ∧ (True)))) (by kernel_rfl) ⟨trivial, ⟨trivial, ⟨⟨trivial, (gq23.ok1 hE)⟩, trivial⟩⟩⟩
theorem gq23.hE : EOk Try.prog (gq23.E) := EOk.of ttOk (⟨gq32.fok, ⟨gq43.fok, ⟨gq44.fok, trivial⟩⟩⟩)
theorem gq23.fok : FOk Try.prog 23 gq23.fi :=
 fokS (E := gq23.E) (wy := ⟨[[none]], [[]], []⟩) (h := (fun gs => .n (.a) (.n (.a) (.n (.n (.a) (.b (.s (gq23.S1)))) (.a))))) (G := fun t g => gq23.F (fun y0 => g y0) t.1.1 t.1.2.1 t.1.2.2.1 t.1.2.2.2.1 t.1.2.2.2.2.1 t.1.2.2.2.2.2.1) (by kernel_rfl) gq23.hE Try.func23 (by kernel_rfl) rfl (Nat.le_refl _) (fun t => HintOk.n1 (by kernel_rfl) (gq23.hok gq23.hE)) (fun t g => gq23.F_nat g (fun y0 => some y0) _ _ _ _ _ _) (fun t => by kernel_rfl)
def gq57.l1 {R : Type} (kke0 : Int → Option R) : Nat → Int → Int → Option R
 | 0, _, _ => none
 | n + 1, n_, k_ =>
  cond (decide ((IntKind.wrap .i64 ((2 : Int) * k_)) < n_)) (gq57.l1 kke0 n n_ (IntKind.wrap .i64 (k_ * (2 : Int)))) (kke0 k_)
theorem gq57.l1_nat {R S : Type} (g : R → Option S) (kke0 : Int → Option R) : ∀ n n_ k_, gq57.l1 (fun y0 => (kke0 y0).bind g) n n_ k_ = (gq57.l1 kke0 n n_ k_).bind g := by
 intro n
 induction n with
 | zero => intros; rfl
 | succ n ih => intros; simp only [gq57.l1, grd_bind, cnd_bind, bnd_bind, non_bind, ih]
def gq57.F {R : Type} (kk : Int → Option R) (n_ : Int) : Option R :=
 gq57.l1 (fun k_ => kk k_) fuel n_ (1 : Int)
theorem gq57.F_nat {R S : Type} (g : R → Option S) (kk : Int → Option R) (n_) : gq57.F (fun y0 => (kk y0).bind g) n_ = (gq57.F kk n_).bind g := by
 simp only [gq57.F, grd_bind, cnd_bind, bnd_bind, non_bind, ← gq57.l1_nat]
def gq57 (n_ : Int) : Option Int := gq57.F (fun y0 => some y0) n_
def gq57.out : Int → CRes := fun a => ⟨encL SV.enc [.one (.int .i64)] (a, ()), [encL SC.enc [] ()]⟩
def gq57.ps : List PS := [.val [none]]
def gq57.sA : List SA := [.v (.one (.int .i64))]
def gq57.fi : FI := FIs gq57.sA (Int) (fun t => gq57 t.1) gq57.out gq57.ps
def gq57.E : Env := ⟨tt, lkF [], 11, 0, [], []⟩
def gq57.sh1 : SK := ⟨[.v (.one (.int .i64)), .v (.one (.int .i64))], []⟩
def gq57.sh1e0 : SK := ⟨[.v (.one (.int .i64))], []⟩
def gq57.ko1 : Ex → List CastAt × List Nat
 | .nrm => ([], [])
 | .ret => ([], [])
 | .ext i => cond (Nat.beq i 0) ([], [3]) ([], [])
def gq57.G1 (n : Nat) (R : Type) (t : gq57.sh1.T) (K : Ex → Kp → Option R) : Option R := gq57.l1 (fun y0 => K (.ext 0) (SK.enc gq57.sh1e0 ((y0, ()), ()))) n t.1.1 t.1.2.1
def gq57.S1 : Sum := ⟨([], [0, 3]), sumF gq57.sh1 (gq57.G1 fuel), gq57.ko1⟩
theorem gq57.ok1 (hE : EOk Try.prog (gq57.E)) : SumOk Try.prog gq57.E (cB (cL (cR (cR (bodyOf Try.f57))))) (gq57.S1) := by
 have hh : HintOk Try.prog gq57.E (cB (cB (cL (cR (cR (bodyOf Try.f57)))))) (.a) := HintOk.n1 (Q := True) (by kernel_rfl) trivial
 have h := loopS (kin := ([], [0, 3])) (kout := gq57.ko1) (sh := gq57.sh1) (F := gq57.G1) (ops_ok (hE.gv _)) (by kernel_rfl) hh (fun _ _ _ => rfl) (fun n R t K => by kernel_rfl) fuel
 exact HintOk.n1 (c := (cB (cL (cR (cR (bodyOf Try.f57)))))) (h := .s (gq57.S1)) (P := Try.prog) (E := gq57.E) (by kernel_rfl) h
theorem gq57.hok (hE : EOk Try.prog (gq57.E)) : HintOk Try.prog gq57.E (bodyOf Try.f57) (.n (.a) (.n (.a) (.n (.b (.s (gq57.S1))) (.a)))) := HintOk.n1 (Q := (True) ∧ ((True) ∧ ((SumOk Try.prog gq57.E (cB (cL (cR (cR (bodyOf Try.f57))))) (gq57.S1)) ∧ (True)))) (by kernel_rfl) ⟨trivial, ⟨trivial, ⟨(gq57.ok1 hE), trivial⟩⟩⟩
theorem gq57.hE : EOk Try.prog (gq57.E) := EOk.of ttOk (trivial)
theorem gq57.fok : FOk Try.prog 57 gq57.fi :=
 fokS (E := gq57.E) (wy := ⟨[[none]], [[]], []⟩) (h := (fun gs => .n (.a) (.n (.a) (.n (.b (.s (gq57.S1))) (.a))))) (G := fun t g => gq57.F (fun y0 => g y0) t.1) (by kernel_rfl) gq57.hE Try.func57 (by kernel_rfl) rfl (Nat.le_refl _) (fun t => HintOk.n1 (by kernel_rfl) (gq57.hok gq57.hE)) (fun t g => gq57.F_nat g (fun y0 => some y0) _) (fun t => by kernel_rfl)
def gq64.F {R : Type} (kk : ByteArray → Option R) (a : ByteArray) (b : ByteArray) : Option R :=
 grd (gRm (((List.length [(1 : Int)]) + (List.length (bytesL a))) * 1)) <|
 grd (gRm (((List.length ([(1 : Int)] ++ (bytesL a))) + (List.length (bytesL b))) * 1)) <|
 (gq63 (([(1 : Int)] ++ (bytesL a)) ++ (bytesL b))).bind fun r =>
 kk r
theorem gq64.F_nat {R S : Type} (g : R → Option S) (kk : ByteArray → Option R) (a b) : gq64.F (fun y0 => (kk y0).bind g) a b = (gq64.F kk a b).bind g := by
 simp only [gq64.F, grd_bind, cnd_bind, bnd_bind, non_bind]
def gq64 (a : ByteArray) (b : ByteArray) : Option ByteArray := gq64.F (fun y0 => some y0) a b
def gq64.out : ByteArray → CRes := fun a => ⟨encL SV.enc [.one (.str)] (a, ()), [encL SC.enc [] (), encL SC.enc [] ()]⟩
def gq64.ps : List PS := [.val [none], .val [none]]
def gq64.sA : List SA := [.v (.one (.str)), .v (.one (.str))]
def gq64.fi : FI := FIs gq64.sA (ByteArray) (fun t => gq64 t.1 t.2.1) gq64.out gq64.ps
def gq64.E : Env := ⟨tt, lkF [(63, gq63.fi)], 11, 0, [], []⟩
theorem gq64.hok (hE : EOk Try.prog (gq64.E)) : HintOk Try.prog gq64.E (bodyOf Try.f64) (.a) := HintOk.n1 (Q := True) (by kernel_rfl) trivial
theorem gq64.hE : EOk Try.prog (gq64.E) := EOk.of ttOk (⟨gq63.fok, trivial⟩)
theorem gq64.fok : FOk Try.prog 64 gq64.fi :=
 fokS (E := gq64.E) (wy := ⟨[[none]], [[], []], []⟩) (h := (fun gs => .a)) (G := fun t g => gq64.F (fun y0 => g y0) t.1 t.2.1) (by kernel_rfl) gq64.hE Try.func64 (by kernel_rfl) rfl (Nat.le_refl _) (fun t => HintOk.n1 (by kernel_rfl) (gq64.hok gq64.hE)) (fun t g => gq64.F_nat g (fun y0 => some y0) _ _) (fun t => by kernel_rfl)
def gq45.F {R : Type} (rc : List ByteArray → Option ByteArray) (kk : ByteArray → Option R) (list : List ByteArray) : Option R :=
 cond ((List.length list : Int) == (0 : Int)) (
  (gq63 ([] : List Int)).bind fun r =>
  kk r) (
  cond ((List.length list : Int) == (1 : Int)) (
   grd (gIx (0 : Int) (List.length list)) <|
   kk (rdE (.str : Kd) list (Int.toNat (0 : Int)))) (
   (gq57 (List.length list : Int)).bind fun r1 =>
   grd (gSl (0 : Int) r1 (List.length list)) <|
   (rc (sub list (0 : Int) r1)).bind fun r2 =>
   grd (gSl r1 (List.length list : Int) (List.length list)) <|
   (rc (sub list r1 (List.length list : Int))).bind fun r3 =>
   (gq64 r2 r3).bind fun r4 =>
   kk r4))
theorem gq45.F_nat {R S : Type} (g : R → Option S) (rc : List ByteArray → Option ByteArray) (kk : ByteArray → Option R) (list) : gq45.F rc (fun y0 => (kk y0).bind g) list = (gq45.F rc kk list).bind g := by
 simp only [gq45.F, grd_bind, cnd_bind, bnd_bind, non_bind]
def gq45 : Nat → List ByteArray → Option ByteArray
 | 0, _ => none
 | fu + 1, list => gq45.F (gq45 fu) (fun y0 => some y0) list
theorem gq45_nat {S : Type} (fu : Nat) (g : ByteArray → Option S) (list : List ByteArray) : gq45.F (gq45 fu) (fun y0 => g y0) list = (gq45 (fu + 1) list).bind g := gq45.F_nat g (gq45 fu) (fun y0 => some y0) list
def gq45.out : ByteArray → CRes := fun a => ⟨encL SV.enc [.one (.str)] (a, ()), [encL SC.enc [] ()]⟩
def gq45.ps : List PS := [.val [some (.str, false)]]
def gq45.sA : List SA := [.v (.one (.slv [] .str))]
def gq45.fi (fu : Nat) : FI := FIs gq45.sA (ByteArray) (fun t => gq45 fu t.1) gq45.out gq45.ps
def gq45.E (fu : Nat) : Env := ⟨tt, lkF [(45, gq45.fi fu), (57, gq57.fi), (63, gq63.fi), (64, gq64.fi)], 27, 0, [], []⟩
theorem gq45.hok (fu : Nat) (hE : EOk Try.prog (gq45.E fu)) : HintOk Try.prog (gq45.E fu) (bodyOf Try.f45) (.a) := HintOk.n1 (Q := True) (by kernel_rfl) trivial
theorem gq45.fok0 : FOk Try.prog 45 (gq45.fi 0) := FOk.zero ⟨_, _, Try.func45, by kernel_rfl, rfl⟩ (fun _ => rfl)
theorem gq45.fok1 (fu : Nat) (ih : FOk Try.prog 45 (gq45.fi fu)) : FOk Try.prog 45 (gq45.fi (fu + 1)) := by
 have hE : EOk Try.prog (gq45.E fu) := EOk.of ttOk (⟨ih, ⟨gq57.fok, ⟨gq63.fok, ⟨gq64.fok, trivial⟩⟩⟩⟩)
 exact fokS (E := gq45.E fu) (wy := ⟨[[none]], [[]], []⟩) (h := (fun gs => .a)) (G := fun t g => gq45.F (gq45 fu) (fun y0 => g y0) t.1) (by kernel_rfl) hE Try.func45 (by kernel_rfl) rfl (Nat.le_refl _) (fun t => HintOk.n1 (by kernel_rfl) (gq45.hok fu hE)) (fun t g => gq45_nat fu g t.1) (fun t => by kernel_rfl)
theorem gq45.fok (fu : Nat) : FOk Try.prog 45 (gq45.fi fu) := Nat.rec gq45.fok0 gq45.fok1 fu
def gq66.F {R : Type} (kk : ByteArray → Option R) (key : ByteArray) (value : ByteArray) : Option R :=
 grd (gRm (((List.length [(0 : Int), IntKind.wrap .u8 (ByteArray.size key : Int)]) + (List.length (bytesL key))) * 1)) <|
 grd (gRm (((List.length ([(0 : Int), IntKind.wrap .u8 (ByteArray.size key : Int)] ++ (bytesL key))) + (List.length (bytesL value))) * 1)) <|
 (gq63 (([(0 : Int), IntKind.wrap .u8 (ByteArray.size key : Int)] ++ (bytesL key)) ++ (bytesL value))).bind fun r =>
 kk r
theorem gq66.F_nat {R S : Type} (g : R → Option S) (kk : ByteArray → Option R) (key value) : gq66.F (fun y0 => (kk y0).bind g) key value = (gq66.F kk key value).bind g := by
 simp only [gq66.F, grd_bind, cnd_bind, bnd_bind, non_bind]
def gq66 (key : ByteArray) (value : ByteArray) : Option ByteArray := gq66.F (fun y0 => some y0) key value
def gq66.out : ByteArray → CRes := fun a => ⟨encL SV.enc [.one (.str)] (a, ()), [encL SC.enc [] (), encL SC.enc [] ()]⟩
def gq66.ps : List PS := [.val [none], .val [none]]
def gq66.sA : List SA := [.v (.one (.str)), .v (.one (.str))]
def gq66.fi : FI := FIs gq66.sA (ByteArray) (fun t => gq66 t.1 t.2.1) gq66.out gq66.ps
def gq66.E : Env := ⟨tt, lkF [(63, gq63.fi)], 14, 0, [], []⟩
theorem gq66.hok (hE : EOk Try.prog (gq66.E)) : HintOk Try.prog gq66.E (bodyOf Try.f66) (.a) := HintOk.n1 (Q := True) (by kernel_rfl) trivial
theorem gq66.hE : EOk Try.prog (gq66.E) := EOk.of ttOk (⟨gq63.fok, trivial⟩)
theorem gq66.fok : FOk Try.prog 66 gq66.fi :=
 fokS (E := gq66.E) (wy := ⟨[[none]], [[], []], []⟩) (h := (fun gs => .a)) (G := fun t g => gq66.F (fun y0 => g y0) t.1 t.2.1) (by kernel_rfl) gq66.hE Try.func66 (by kernel_rfl) rfl (Nat.le_refl _) (fun t => HintOk.n1 (by kernel_rfl) (gq66.hok gq66.hE)) (fun t g => gq66.F_nat g (fun y0 => some y0) _ _) (fun t => by kernel_rfl)
def gq67.F {R : Type} (kk : ByteArray → Option R) (at_ : Int) (a : ByteArray) (b : ByteArray) : Option R :=
 grd (gRm (((List.length [(1 : Int), IntKind.wrap .u8 at_]) + (List.length (bytesL a))) * 1)) <|
 grd (gRm (((List.length ([(1 : Int), IntKind.wrap .u8 at_] ++ (bytesL a))) + (List.length (bytesL b))) * 1)) <|
 (gq63 (([(1 : Int), IntKind.wrap .u8 at_] ++ (bytesL a)) ++ (bytesL b))).bind fun r =>
 kk r
theorem gq67.F_nat {R S : Type} (g : R → Option S) (kk : ByteArray → Option R) (at_ a b) : gq67.F (fun y0 => (kk y0).bind g) at_ a b = (gq67.F kk at_ a b).bind g := by
 simp only [gq67.F, grd_bind, cnd_bind, bnd_bind, non_bind]
def gq67 (at_ : Int) (a : ByteArray) (b : ByteArray) : Option ByteArray := gq67.F (fun y0 => some y0) at_ a b
def gq67.out : ByteArray → CRes := fun a => ⟨encL SV.enc [.one (.str)] (a, ()), [encL SC.enc [] (), encL SC.enc [] (), encL SC.enc [] ()]⟩
def gq67.ps : List PS := [.val [none], .val [none], .val [none]]
def gq67.sA : List SA := [.v (.one (.int .i64)), .v (.one (.str)), .v (.one (.str))]
def gq67.fi : FI := FIs gq67.sA (ByteArray) (fun t => gq67 t.1 t.2.1 t.2.2.1) gq67.out gq67.ps
def gq67.E : Env := ⟨tt, lkF [(63, gq63.fi)], 15, 0, [], []⟩
theorem gq67.hok (hE : EOk Try.prog (gq67.E)) : HintOk Try.prog gq67.E (bodyOf Try.f67) (.a) := HintOk.n1 (Q := True) (by kernel_rfl) trivial
theorem gq67.hE : EOk Try.prog (gq67.E) := EOk.of ttOk (⟨gq63.fok, trivial⟩)
theorem gq67.fok : FOk Try.prog 67 gq67.fi :=
 fokS (E := gq67.E) (wy := ⟨[[none]], [[], [], []], []⟩) (h := (fun gs => .a)) (G := fun t g => gq67.F (fun y0 => g y0) t.1 t.2.1 t.2.2.1) (by kernel_rfl) gq67.hE Try.func67 (by kernel_rfl) rfl (Nat.le_refl _) (fun t => HintOk.n1 (by kernel_rfl) (gq67.hok gq67.hE)) (fun t g => gq67.F_nat g (fun y0 => some y0) _ _ _) (fun t => by kernel_rfl)
def gq46.F {R : Type} (rc : ByteArray → ByteArray → Int → List (El kk8eb) → Option ByteArray) (kk : ByteArray → Option R) (b_Key : ByteArray) (b_Value : ByteArray) (b_At : Int) (b_Kids : List (El kk8eb)) : Option R :=
 (gq61 b_Key b_Value b_At b_Kids).bind fun r =>
 cond (r) (
  (gq63 [(2 : Int)]).bind fun r1 =>
  kk r1) (
  (gq65 b_Key b_Value b_At b_Kids).bind fun r2 =>
  cond (r2) (
   (gq66 b_Key b_Value).bind fun r3 =>
   kk r3) (
   grd (gIx (0 : Int) (List.length b_Kids)) <|
   (rc ((Tree.val (rdE kk8eb b_Kids (Int.toNat (0 : Int)))).1) ((Tree.val (rdE kk8eb b_Kids (Int.toNat (0 : Int)))).2.1) ((Tree.val (rdE kk8eb b_Kids (Int.toNat (0 : Int)))).2.2) (Tree.kids (rdE kk8eb b_Kids (Int.toNat (0 : Int))))).bind fun r4 =>
   grd (gIx (1 : Int) (List.length b_Kids)) <|
   (rc ((Tree.val (rdE kk8eb b_Kids (Int.toNat (1 : Int)))).1) ((Tree.val (rdE kk8eb b_Kids (Int.toNat (1 : Int)))).2.1) ((Tree.val (rdE kk8eb b_Kids (Int.toNat (1 : Int)))).2.2) (Tree.kids (rdE kk8eb b_Kids (Int.toNat (1 : Int))))).bind fun r5 =>
   (gq67 b_At r4 r5).bind fun r6 =>
   kk r6))
theorem gq46.F_nat {R S : Type} (g : R → Option S) (rc : ByteArray → ByteArray → Int → List (El kk8eb) → Option ByteArray) (kk : ByteArray → Option R) (b_Key b_Value b_At b_Kids) : gq46.F rc (fun y0 => (kk y0).bind g) b_Key b_Value b_At b_Kids = (gq46.F rc kk b_Key b_Value b_At b_Kids).bind g := by
 simp only [gq46.F, grd_bind, cnd_bind, bnd_bind, non_bind]
def gq46 : Nat → ByteArray → ByteArray → Int → List (El kk8eb) → Option ByteArray
 | 0, _, _, _, _ => none
 | fu + 1, b_Key, b_Value, b_At, b_Kids => gq46.F (gq46 fu) (fun y0 => some y0) b_Key b_Value b_At b_Kids
theorem gq46_nat {S : Type} (fu : Nat) (g : ByteArray → Option S) (b_Key : ByteArray) (b_Value : ByteArray) (b_At : Int) (b_Kids : List (El kk8eb)) : gq46.F (gq46 fu) (fun y0 => g y0) b_Key b_Value b_At b_Kids = (gq46 (fu + 1) b_Key b_Value b_At b_Kids).bind g := gq46.F_nat g (gq46 fu) (fun y0 => some y0) b_Key b_Value b_At b_Kids
def gq46.out : ByteArray → CRes := fun a => ⟨encL SV.enc [.one (.str)] (a, ()), [encL SC.enc [] ()]⟩
def gq46.ps : List PS := [.val [none, none, none, some (kk8eb, false)]]
def gq46.sA : List SA := [.v (.agg [.str, .str, .int .i64, .slv [] kk8eb])]
def gq46.fi (fu : Nat) : FI := FIs gq46.sA (ByteArray) (fun t => gq46 fu t.1.1 t.1.2.1 t.1.2.2.1 t.1.2.2.2.1) gq46.out gq46.ps
def gq46.E (fu : Nat) : Env := ⟨tt, lkF [(46, gq46.fi fu), (61, gq61.fi), (63, gq63.fi), (65, gq65.fi), (66, gq66.fi), (67, gq67.fi)], 27, 0, [], []⟩
theorem gq46.hok (fu : Nat) (hE : EOk Try.prog (gq46.E fu)) : HintOk Try.prog (gq46.E fu) (bodyOf Try.f46) (.a) := HintOk.n1 (Q := True) (by kernel_rfl) trivial
theorem gq46.fok0 : FOk Try.prog 46 (gq46.fi 0) := FOk.zero ⟨_, _, Try.func46, by kernel_rfl, rfl⟩ (fun _ => rfl)
theorem gq46.fok1 (fu : Nat) (ih : FOk Try.prog 46 (gq46.fi fu)) : FOk Try.prog 46 (gq46.fi (fu + 1)) := by
 have hE : EOk Try.prog (gq46.E fu) := EOk.of ttOk (⟨ih, ⟨gq61.fok, ⟨gq63.fok, ⟨gq65.fok, ⟨gq66.fok, ⟨gq67.fok, trivial⟩⟩⟩⟩⟩⟩)
 exact fokS (E := gq46.E fu) (wy := ⟨[[none]], [[]], []⟩) (h := (fun gs => .a)) (G := fun t g => gq46.F (gq46 fu) (fun y0 => g y0) t.1.1 t.1.2.1 t.1.2.2.1 t.1.2.2.2.1) (by kernel_rfl) hE Try.func46 (by kernel_rfl) rfl (Nat.le_refl _) (fun t => HintOk.n1 (by kernel_rfl) (gq46.hok fu hE)) (fun t g => gq46_nat fu g t.1.1 t.1.2.1 t.1.2.2.1 t.1.2.2.2.1) (fun t => by kernel_rfl)
theorem gq46.fok (fu : Nat) : FOk Try.prog 46 (gq46.fi fu) := Nat.rec gq46.fok0 gq46.fok1 fu
def gq24.F {R : Type} (kk : Int → ByteArray → ByteArray → Option R) (l_Leaves : List ByteArray) (l_Map_Key : ByteArray) (l_Map_Value : ByteArray) (l_Map_At : Int) (l_Map_Kids : List (El kk8eb)) (l_Sessions : List (El kkb2)) : Option R :=
 (gq45 fuel l_Leaves).bind fun r =>
 (gq46 fuel l_Map_Key l_Map_Value l_Map_At l_Map_Kids).bind fun r1 =>
 kk (List.length l_Leaves : Int) r r1
theorem gq24.F_nat {R S : Type} (g : R → Option S) (kk : Int → ByteArray → ByteArray → Option R) (l_Leaves l_Map_Key l_Map_Value l_Map_At l_Map_Kids l_Sessions) : gq24.F (fun y0 y1 y2 => (kk y0 y1 y2).bind g) l_Leaves l_Map_Key l_Map_Value l_Map_At l_Map_Kids l_Sessions = (gq24.F kk l_Leaves l_Map_Key l_Map_Value l_Map_At l_Map_Kids l_Sessions).bind g := by
 simp only [gq24.F, grd_bind, cnd_bind, bnd_bind, non_bind]
def gq24 (l_Leaves : List ByteArray) (l_Map_Key : ByteArray) (l_Map_Value : ByteArray) (l_Map_At : Int) (l_Map_Kids : List (El kk8eb)) (l_Sessions : List (El kkb2)) : Option (Int × ByteArray × ByteArray) := gq24.F (fun y0 y1 y2 => some (y0, y1, y2)) l_Leaves l_Map_Key l_Map_Value l_Map_At l_Map_Kids l_Sessions
def gq24.out : (Int × ByteArray × ByteArray) → CRes := fun a => ⟨encL SV.enc [.agg [.int .i64, .str, .str]] ((a.1, a.2.1, a.2.2, ()), ()), [encL SC.enc [] ()]⟩
def gq24.ps : List PS := [.val [some (.str, false), none, none, none, some (kk8eb, false), some (kkb2, false)]]
def gq24.sA : List SA := [.v (.agg [.slv [] .str, .str, .str, .int .i64, .slv [] kk8eb, .slv [] kkb2])]
def gq24.fi : FI := FIs gq24.sA (Int × ByteArray × ByteArray) (fun t => gq24 t.1.1 t.1.2.1 t.1.2.2.1 t.1.2.2.2.1 t.1.2.2.2.2.1 t.1.2.2.2.2.2.1) gq24.out gq24.ps
def gq24.E : Env := ⟨tt, lkF [(45, gq45.fi fuel), (46, gq46.fi fuel)], 13, 0, [], []⟩
theorem gq24.hok (hE : EOk Try.prog (gq24.E)) : HintOk Try.prog gq24.E (bodyOf Try.f24) (.a) := HintOk.n1 (Q := True) (by kernel_rfl) trivial
theorem gq24.hE : EOk Try.prog (gq24.E) := EOk.of ttOk (⟨gq45.fok fuel, ⟨gq46.fok fuel, trivial⟩⟩)
theorem gq24.fok : FOk Try.prog 24 gq24.fi :=
 fokS (E := gq24.E) (wy := ⟨[[none, none, none]], [[]], []⟩) (h := (fun gs => .a)) (G := fun t g => gq24.F (fun y0 y1 y2 => g (y0, y1, y2)) t.1.1 t.1.2.1 t.1.2.2.1 t.1.2.2.2.1 t.1.2.2.2.2.1 t.1.2.2.2.2.2.1) (by kernel_rfl) gq24.hE Try.func24 (by kernel_rfl) rfl (Nat.le_refl _) (fun t => HintOk.n1 (by kernel_rfl) (gq24.hok gq24.hE)) (fun t g => gq24.F_nat g (fun y0 y1 y2 => some (y0, y1, y2)) _ _ _ _ _ _) (fun t => by kernel_rfl)
def gq7.F {R : Type} (kk : Int → ByteArray → ByteArray → Int → Option R) (l_Leaves : List ByteArray) (l_Map_Key : ByteArray) (l_Map_Value : ByteArray) (l_Map_At : Int) (l_Map_Kids : List (El kk8eb)) (l_Sessions : List (El kkb2)) : Option R :=
 (gq23 l_Leaves l_Map_Key l_Map_Value l_Map_At l_Map_Kids l_Sessions).bind fun r =>
 cond (!r) (kk (0 : Int) ByteArray.empty ByteArray.empty (1 : Int)) (
  (gq24 l_Leaves l_Map_Key l_Map_Value l_Map_At l_Map_Kids l_Sessions).bind fun r1 =>
  kk r1.1 r1.2.1 r1.2.2 (0 : Int))
theorem gq7.F_nat {R S : Type} (g : R → Option S) (kk : Int → ByteArray → ByteArray → Int → Option R) (l_Leaves l_Map_Key l_Map_Value l_Map_At l_Map_Kids l_Sessions) : gq7.F (fun y0 y1 y2 y3 => (kk y0 y1 y2 y3).bind g) l_Leaves l_Map_Key l_Map_Value l_Map_At l_Map_Kids l_Sessions = (gq7.F kk l_Leaves l_Map_Key l_Map_Value l_Map_At l_Map_Kids l_Sessions).bind g := by
 simp only [gq7.F, grd_bind, cnd_bind, bnd_bind, non_bind]
def gq7 (l_Leaves : List ByteArray) (l_Map_Key : ByteArray) (l_Map_Value : ByteArray) (l_Map_At : Int) (l_Map_Kids : List (El kk8eb)) (l_Sessions : List (El kkb2)) : Option (Int × ByteArray × ByteArray × Int) := gq7.F (fun y0 y1 y2 y3 => some (y0, y1, y2, y3)) l_Leaves l_Map_Key l_Map_Value l_Map_At l_Map_Kids l_Sessions
def gq7.out : (Int × ByteArray × ByteArray × Int) → CRes := fun a => ⟨encL SV.enc [.agg [.int .i64, .str, .str], .one (.int .i64)] ((a.1, a.2.1, a.2.2.1, ()), a.2.2.2, ()), [encL SC.enc [] ()]⟩
def gq7.ps : List PS := [.val [some (.str, false), none, none, none, some (kk8eb, false), some (kkb2, false)]]
def gq7.sA : List SA := [.v (.agg [.slv [] .str, .str, .str, .int .i64, .slv [] kk8eb, .slv [] kkb2])]
def gq7.fi : FI := FIs gq7.sA (Int × ByteArray × ByteArray × Int) (fun t => gq7 t.1.1 t.1.2.1 t.1.2.2.1 t.1.2.2.2.1 t.1.2.2.2.2.1 t.1.2.2.2.2.2.1) gq7.out gq7.ps
def gq7.E : Env := ⟨tt, lkF [(23, gq23.fi), (24, gq24.fi)], 10, 0, [], []⟩
theorem gq7.hok (hE : EOk Try.prog (gq7.E)) : HintOk Try.prog gq7.E (bodyOf Try.f7) (.a) := HintOk.n1 (Q := True) (by kernel_rfl) trivial
theorem gq7.hE : EOk Try.prog (gq7.E) := EOk.of ttOk (⟨gq23.fok, ⟨gq24.fok, trivial⟩⟩)
theorem gq7.fok : FOk Try.prog 7 gq7.fi :=
 fokS (E := gq7.E) (wy := ⟨[[none, none, none], [none]], [[]], []⟩) (h := (fun gs => .a)) (G := fun t g => gq7.F (fun y0 y1 y2 y3 => g (y0, y1, y2, y3)) t.1.1 t.1.2.1 t.1.2.2.1 t.1.2.2.2.1 t.1.2.2.2.2.1 t.1.2.2.2.2.2.1) (by kernel_rfl) gq7.hE Try.func7 (by kernel_rfl) rfl (Nat.le_refl _) (fun t => HintOk.n1 (by kernel_rfl) (gq7.hok gq7.hE)) (fun t g => gq7.F_nat g (fun y0 y1 y2 y3 => some (y0, y1, y2, y3)) _ _ _ _ _ _) (fun t => by kernel_rfl)
def gq25.l1 {R : Type} (kke0 : List ByteArray → Option R) : Nat → List ByteArray → Int → List ByteArray → Option R
 | 0, _, _, _ => none
 | n + 1, a, i, out =>
  cond (decide (i < (List.length a : Int))) (
   grd (gIx i (List.length a)) <|
   grd (gIx i (List.length out)) <|
   gq25.l1 kke0 n a (IntKind.wrap .i64 (i + (1 : Int))) (setE (.str : Kd) out (Int.toNat i) (rdE (.str : Kd) a (Int.toNat i)))) (kke0 out)
theorem gq25.l1_nat {R S : Type} (g : R → Option S) (kke0 : List ByteArray → Option R) : ∀ n a i out, gq25.l1 (fun y0 => (kke0 y0).bind g) n a i out = (gq25.l1 kke0 n a i out).bind g := by
 intro n
 induction n with
 | zero => intros; rfl
 | succ n ih => intros; simp only [gq25.l1, grd_bind, cnd_bind, bnd_bind, non_bind, ih]
def gq25.F {R : Type} (kk : List ByteArray → Option R) (a : List ByteArray) : Option R :=
 grd (gMk (List.length a : Int) (List.length a : Int) 16) <|
 gq25.l1 (fun out => kk out) fuel a (0 : Int) (List.replicate (Int.toNat (List.length a : Int)) ByteArray.empty)
theorem gq25.F_nat {R S : Type} (g : R → Option S) (kk : List ByteArray → Option R) (a) : gq25.F (fun y0 => (kk y0).bind g) a = (gq25.F kk a).bind g := by
 simp only [gq25.F, grd_bind, cnd_bind, bnd_bind, non_bind, ← gq25.l1_nat]
def gq25 (a : List ByteArray) : Option (List ByteArray) := gq25.F (fun y0 => some y0) a
def gq25.out : (List ByteArray) → CRes := fun a => ⟨encL SV.enc [.one (.own [] .str true)] (a, ()), [encL SC.enc [] ()]⟩
def gq25.ps : List PS := [.val [some (.str, false)]]
def gq25.sA : List SA := [.v (.one (.slv [] .str))]
def gq25.fi : FI := FIs gq25.sA (List ByteArray) (fun t => gq25 t.1) gq25.out gq25.ps
def gq25.E : Env := ⟨tt, lkF [], 22, 0, [], []⟩
def gq25.sh1 : SK := ⟨[.v (.one (.slv [1] .str)), .v (.one (.slo 0)), .v (.one (.int .i64))], [.arr .str [] true]⟩
def gq25.sh1e0 : SK := ⟨[.v (.one (.slo 0))], [.arr .str [] true]⟩
def gq25.ko1 : Ex → List CastAt × List Nat
 | .nrm => ([], [])
 | .ret => ([], [])
 | .ext i => cond (Nat.beq i 0) ([], [3]) ([], [])
def gq25.G1 (n : Nat) (R : Type) (t : gq25.sh1.T) (K : Ex → Kp → Option R) : Option R := gq25.l1 (fun y0 => K (.ext 0) (SK.enc gq25.sh1e0 (((), ()), (y0, ())))) n t.1.1 t.1.2.2.1 t.2.1
def gq25.S1 : Sum := ⟨([], [0, 3, 4]), sumF gq25.sh1 (gq25.G1 fuel), gq25.ko1⟩
theorem gq25.ok1 (hE : EOk Try.prog (gq25.E)) : SumOk Try.prog gq25.E (cB (cR (cL (cR (cR (bodyOf Try.f25)))))) (gq25.S1) := by
 have hh : HintOk Try.prog gq25.E (cB (cB (cR (cL (cR (cR (bodyOf Try.f25))))))) (.a) := HintOk.n1 (Q := True) (by kernel_rfl) trivial
 have h := loopS (kin := ([], [0, 3, 4])) (kout := gq25.ko1) (sh := gq25.sh1) (F := gq25.G1) (ops_ok (hE.gv _)) (by kernel_rfl) hh (fun _ _ _ => rfl) (fun n R t K => by kernel_rfl) fuel
 exact HintOk.n1 (c := (cB (cR (cL (cR (cR (bodyOf Try.f25))))))) (h := .s (gq25.S1)) (P := Try.prog) (E := gq25.E) (by kernel_rfl) h
theorem gq25.hok (hE : EOk Try.prog (gq25.E)) : HintOk Try.prog gq25.E (bodyOf Try.f25) (.n (.a) (.n (.a) (.n (.n (.a) (.b (.s (gq25.S1)))) (.a)))) := HintOk.n1 (Q := (True) ∧ ((True) ∧ (((True) ∧ (SumOk Try.prog gq25.E (cB (cR (cL (cR (cR (bodyOf Try.f25)))))) (gq25.S1))) ∧ (True)))) (by kernel_rfl) ⟨trivial, ⟨trivial, ⟨⟨trivial, (gq25.ok1 hE)⟩, trivial⟩⟩⟩
theorem gq25.hE : EOk Try.prog (gq25.E) := EOk.of ttOk (trivial)
theorem gq25.fok : FOk Try.prog 25 gq25.fi :=
 fokS (E := gq25.E) (wy := ⟨[[some (.str, true)]], [[]], []⟩) (h := (fun gs => .n (.a) (.n (.a) (.n (.n (.a) (.b (.s (gq25.S1)))) (.a))))) (G := fun t g => gq25.F (fun y0 => g y0) t.1) (by kernel_rfl) gq25.hE Try.func25 (by kernel_rfl) rfl (Nat.le_refl _) (fun t => HintOk.n1 (by kernel_rfl) (gq25.hok gq25.hE)) (fun t g => gq25.F_nat g (fun y0 => some y0) _) (fun t => by kernel_rfl)
def gq47.l1 {R : Type} (rc : ByteArray → ByteArray → Int → List (El kk8eb) → Option (ByteArray × ByteArray × Int × List (El kk8eb))) (kke0 : List (El kk8eb) → Option R) : Nat → List (El kk8eb) → Int → List (El kk8eb) → Option R
 | 0, _, _, _ => none
 | n + 1, a, i, out =>
  cond (decide (i < (List.length a : Int))) (
   grd (gIx i (List.length a)) <|
   (rc ((Tree.val (rdE kk8eb a (Int.toNat i))).1) ((Tree.val (rdE kk8eb a (Int.toNat i))).2.1) ((Tree.val (rdE kk8eb a (Int.toNat i))).2.2) (Tree.kids (rdE kk8eb a (Int.toNat i)))).bind fun r =>
   grd (gIx i (List.length out)) <|
   gq47.l1 rc kke0 n a (IntKind.wrap .i64 (i + (1 : Int))) (setE kk8eb out (Int.toNat i) (Tree.mk (r.1, (r.2.1, r.2.2.1)) r.2.2.2))) (kke0 out)
theorem gq47.l1_nat {R S : Type} (g : R → Option S) (rc : ByteArray → ByteArray → Int → List (El kk8eb) → Option (ByteArray × ByteArray × Int × List (El kk8eb))) (kke0 : List (El kk8eb) → Option R) : ∀ n a i out, gq47.l1 rc (fun y0 => (kke0 y0).bind g) n a i out = (gq47.l1 rc kke0 n a i out).bind g := by
 intro n
 induction n with
 | zero => intros; rfl
 | succ n ih => intros; simp only [gq47.l1, grd_bind, cnd_bind, bnd_bind, non_bind, ih]
def gq47.F {R : Type} (rc : ByteArray → ByteArray → Int → List (El kk8eb) → Option (ByteArray × ByteArray × Int × List (El kk8eb))) (kk : List (El kk8eb) → Option R) (a : List (El kk8eb)) : Option R :=
 grd (gMk (List.length a : Int) (List.length a : Int) 64) <|
 gq47.l1 rc (fun out => kk out) fuel a (0 : Int) (List.replicate (Int.toNat (List.length a : Int)) (Tree.mk (ByteArray.empty, (ByteArray.empty, (0 : Int))) []))
theorem gq47.F_nat {R S : Type} (g : R → Option S) (rc : ByteArray → ByteArray → Int → List (El kk8eb) → Option (ByteArray × ByteArray × Int × List (El kk8eb))) (kk : List (El kk8eb) → Option R) (a) : gq47.F rc (fun y0 => (kk y0).bind g) a = (gq47.F rc kk a).bind g := by
 simp only [gq47.F, grd_bind, cnd_bind, bnd_bind, non_bind, ← gq47.l1_nat]
def gq47 (rc : ByteArray → ByteArray → Int → List (El kk8eb) → Option (ByteArray × ByteArray × Int × List (El kk8eb))) (a : List (El kk8eb)) : Option (List (El kk8eb)) := gq47.F rc (fun y0 => some y0) a
def gq26.F {R : Type} (rc : ByteArray → ByteArray → Int → List (El kk8eb) → Option (ByteArray × ByteArray × Int × List (El kk8eb))) (kk : ByteArray → ByteArray → Int → List (El kk8eb) → Option R) (a_Key : ByteArray) (a_Value : ByteArray) (a_At : Int) (a_Kids : List (El kk8eb)) : Option R :=
 (gq47 rc a_Kids).bind fun r =>
 kk a_Key a_Value a_At r
theorem gq26.F_nat {R S : Type} (g : R → Option S) (rc : ByteArray → ByteArray → Int → List (El kk8eb) → Option (ByteArray × ByteArray × Int × List (El kk8eb))) (kk : ByteArray → ByteArray → Int → List (El kk8eb) → Option R) (a_Key a_Value a_At a_Kids) : gq26.F rc (fun y0 y1 y2 y3 => (kk y0 y1 y2 y3).bind g) a_Key a_Value a_At a_Kids = (gq26.F rc kk a_Key a_Value a_At a_Kids).bind g := by
 simp only [gq26.F, grd_bind, cnd_bind, bnd_bind, non_bind]
def gq26 : Nat → ByteArray → ByteArray → Int → List (El kk8eb) → Option (ByteArray × ByteArray × Int × List (El kk8eb))
 | 0, _, _, _, _ => none
 | fu + 1, a_Key, a_Value, a_At, a_Kids => gq26.F (gq26 fu) (fun y0 y1 y2 y3 => some (y0, y1, y2, y3)) a_Key a_Value a_At a_Kids
theorem gq26_nat {S : Type} (fu : Nat) (g : (ByteArray × ByteArray × Int × List (El kk8eb)) → Option S) (a_Key : ByteArray) (a_Value : ByteArray) (a_At : Int) (a_Kids : List (El kk8eb)) : gq26.F (gq26 fu) (fun y0 y1 y2 y3 => g (y0, y1, y2, y3)) a_Key a_Value a_At a_Kids = (gq26 (fu + 1) a_Key a_Value a_At a_Kids).bind g := gq26.F_nat g (gq26 fu) (fun y0 y1 y2 y3 => some (y0, y1, y2, y3)) a_Key a_Value a_At a_Kids
def gq26.out : (ByteArray × ByteArray × Int × List (El kk8eb)) → CRes := fun a => ⟨encL SV.enc [.agg [.str, .str, .int .i64, .slv [0] kk8eb]] ((a.1, a.2.1, a.2.2.1, a.2.2.2, ()), ()), [encL SC.enc [] ()]⟩
def gq26.ps : List PS := [.val [none, none, none, some (kk8eb, false)]]
def gq26.sA : List SA := [.v (.agg [.str, .str, .int .i64, .slv [] kk8eb])]
def gq26.fi (fu : Nat) : FI := FIs gq26.sA (ByteArray × ByteArray × Int × List (El kk8eb)) (fun t => gq26 fu t.1.1 t.1.2.1 t.1.2.2.1 t.1.2.2.2.1) gq26.out gq26.ps
def gq47.out : (List (El kk8eb)) → CRes := fun a => ⟨encL SV.enc [.one (.slv [0] kk8eb)] (a, ()), [encL SC.enc [] ()]⟩
def gq47.ps : List PS := [.val [some (kk8eb, false)]]
def gq47.sA : List SA := [.v (.one (.slv [] kk8eb))]
def gq47.fi (fu : Nat) : FI := FIs gq47.sA (List (El kk8eb)) (fun t => gq47 (gq26 fu) t.1) gq47.out gq47.ps
def gq47.E (fu : Nat) : Env := ⟨tt, lkF [(26, gq26.fi fu)], 23, 0, [], []⟩
def gq47.sh1 : SK := ⟨[.v (.one (.slv [1] kk8eb)), .v (.one (.slo 0)), .v (.one (.int .i64))], [.arr kk8eb [0] true]⟩
def gq47.sh1e0 : SK := ⟨[.v (.one (.slo 0))], [.arr kk8eb [0] true]⟩
def gq47.ko1 : Ex → List CastAt × List Nat
 | .nrm => ([], [])
 | .ret => ([], [])
 | .ext i => cond (Nat.beq i 0) ([], [3]) ([], [])
def gq47.G1 (fu : Nat) (n : Nat) (R : Type) (t : gq47.sh1.T) (K : Ex → Kp → Option R) : Option R := gq47.l1 (gq26 fu) (fun y0 => K (.ext 0) (SK.enc gq47.sh1e0 (((), ()), (y0, ())))) n t.1.1 t.1.2.2.1 t.2.1
def gq47.S1 (fu : Nat) : Sum := ⟨([⟨3, false, 0, .wide [0]⟩], [0, 3, 4]), sumF gq47.sh1 (gq47.G1 fu fuel), gq47.ko1⟩
theorem gq47.ok1 (fu : Nat) (hE : EOk Try.prog (gq47.E fu)) : SumOk Try.prog (gq47.E fu) (cB (cR (cL (cR (cR (bodyOf Try.f47)))))) (gq47.S1 fu) := by
 have hh : HintOk Try.prog (gq47.E fu) (cB (cB (cR (cL (cR (cR (bodyOf Try.f47))))))) (.a) := HintOk.n1 (Q := True) (by kernel_rfl) trivial
 have h := loopS (kin := ([⟨3, false, 0, .wide [0]⟩], [0, 3, 4])) (kout := gq47.ko1) (sh := gq47.sh1) (F := gq47.G1 fu) (ops_ok (hE.gv _)) (by kernel_rfl) hh (fun _ _ _ => rfl) (fun n R t K => by kernel_rfl) fuel
 exact HintOk.n1 (c := (cB (cR (cL (cR (cR (bodyOf Try.f47))))))) (h := .s (gq47.S1 fu)) (P := Try.prog) (E := (gq47.E fu)) (by kernel_rfl) h
theorem gq47.hok (fu : Nat) (hE : EOk Try.prog (gq47.E fu)) : HintOk Try.prog (gq47.E fu) (bodyOf Try.f47) (.n (.a) (.n (.a) (.n (.n (.a) (.b (.s (gq47.S1 fu)))) (.a)))) := HintOk.n1 (Q := (True) ∧ ((True) ∧ (((True) ∧ (SumOk Try.prog (gq47.E fu) (cB (cR (cL (cR (cR (bodyOf Try.f47)))))) (gq47.S1 fu))) ∧ (True)))) (by kernel_rfl) ⟨trivial, ⟨trivial, ⟨⟨trivial, (gq47.ok1 fu hE)⟩, trivial⟩⟩⟩
theorem gq47.fok (fu : Nat) (ih : FOk Try.prog 26 (gq26.fi fu)) : FOk Try.prog 47 (gq47.fi fu) := by
 have hE : EOk Try.prog (gq47.E fu) := EOk.of ttOk (⟨ih, trivial⟩)
 exact fokS (E := gq47.E fu) (wy := ⟨[[some (kk8eb, false)]], [[]], [⟨2, false, 0, .slv [0] kk8eb⟩]⟩) (h := (fun gs => .n (.a) (.n (.a) (.n (.n (.a) (.b (.s (gq47.S1 fu)))) (.a))))) (G := fun t g => gq47.F (gq26 fu) (fun y0 => g y0) t.1) (by kernel_rfl) hE Try.func47 (by kernel_rfl) rfl (Nat.le_refl _) (fun t => HintOk.n1 (by kernel_rfl) (gq47.hok fu hE)) (fun t g => gq47.F_nat g (gq26 fu) (fun y0 => some y0) _) (fun t => by kernel_rfl)
def gq26.E (fu : Nat) : Env := ⟨tt, lkF [(47, gq47.fi fu)], 18, 0, [], []⟩
theorem gq26.hok (fu : Nat) (hE : EOk Try.prog (gq26.E fu)) : HintOk Try.prog (gq26.E fu) (bodyOf Try.f26) (.a) := HintOk.n1 (Q := True) (by kernel_rfl) trivial
theorem gq26.fok0 : FOk Try.prog 26 (gq26.fi 0) := FOk.zero ⟨_, _, Try.func26, by kernel_rfl, rfl⟩ (fun _ => rfl)
theorem gq26.fok1 (fu : Nat) (ih : FOk Try.prog 26 (gq26.fi fu)) : FOk Try.prog 26 (gq26.fi (fu + 1)) := by
 have hE : EOk Try.prog (gq26.E fu) := EOk.of ttOk (⟨gq47.fok fu ih, trivial⟩)
 exact fokS (E := gq26.E fu) (wy := ⟨[[none, none, none, some (kk8eb, false)]], [[]], []⟩) (h := (fun gs => .a)) (G := fun t g => gq26.F (gq26 fu) (fun y0 y1 y2 y3 => g (y0, y1, y2, y3)) t.1.1 t.1.2.1 t.1.2.2.1 t.1.2.2.2.1) (by kernel_rfl) hE Try.func26 (by kernel_rfl) rfl (Nat.le_refl _) (fun t => HintOk.n1 (by kernel_rfl) (gq26.hok fu hE)) (fun t g => gq26_nat fu g t.1.1 t.1.2.1 t.1.2.2.1 t.1.2.2.2.1) (fun t => by kernel_rfl)
theorem gq26.fok (fu : Nat) : FOk Try.prog 26 (gq26.fi fu) := Nat.rec gq26.fok0 gq26.fok1 fu
def gq68.F {R : Type} (kk : Int → Int → ByteArray → Option R) (a_Kind : Int) (a_Place : Int) (a_Value : ByteArray) : Option R :=
 kk a_Kind a_Place a_Value
theorem gq68.F_nat {R S : Type} (g : R → Option S) (kk : Int → Int → ByteArray → Option R) (a_Kind a_Place a_Value) : gq68.F (fun y0 y1 y2 => (kk y0 y1 y2).bind g) a_Kind a_Place a_Value = (gq68.F kk a_Kind a_Place a_Value).bind g := by
 simp only [gq68.F, grd_bind, cnd_bind, bnd_bind, non_bind]
def gq68 (a_Kind : Int) (a_Place : Int) (a_Value : ByteArray) : Option (Int × Int × ByteArray) := gq68.F (fun y0 y1 y2 => some (y0, y1, y2)) a_Kind a_Place a_Value
def gq68.out : (Int × Int × ByteArray) → CRes := fun a => ⟨encL SV.enc [.agg [.int .i64, .int .i64, .str]] ((a.1, a.2.1, a.2.2, ()), ()), [encL SC.enc [] ()]⟩
def gq68.ps : List PS := [.val [none, none, none]]
def gq68.sA : List SA := [.v (.agg [.int .i64, .int .i64, .str])]
def gq68.fi : FI := FIs gq68.sA (Int × Int × ByteArray) (fun t => gq68 t.1.1 t.1.2.1 t.1.2.2.1) gq68.out gq68.ps
def gq68.E : Env := ⟨tt, lkF [], 14, 0, [], []⟩
theorem gq68.hok (hE : EOk Try.prog (gq68.E)) : HintOk Try.prog gq68.E (bodyOf Try.f68) (.a) := HintOk.n1 (Q := True) (by kernel_rfl) trivial
theorem gq68.hE : EOk Try.prog (gq68.E) := EOk.of ttOk (trivial)
theorem gq68.fok : FOk Try.prog 68 gq68.fi :=
 fokS (E := gq68.E) (wy := ⟨[[none, none, none]], [[]], []⟩) (h := (fun gs => .a)) (G := fun t g => gq68.F (fun y0 y1 y2 => g (y0, y1, y2)) t.1.1 t.1.2.1 t.1.2.2.1) (by kernel_rfl) gq68.hE Try.func68 (by kernel_rfl) rfl (Nat.le_refl _) (fun t => HintOk.n1 (by kernel_rfl) (gq68.hok gq68.hE)) (fun t g => gq68.F_nat g (fun y0 y1 y2 => some (y0, y1, y2)) _ _ _) (fun t => by kernel_rfl)
def gq48.F {R : Type} (kk : Int → Int → Int → Int → ByteArray → Option R) (a_Id : Int) (a_Seq : Int) (a_Last_Kind : Int) (a_Last_Place : Int) (a_Last_Value : ByteArray) : Option R :=
 (gq68 a_Last_Kind a_Last_Place a_Last_Value).bind fun r =>
 kk a_Id a_Seq r.1 r.2.1 r.2.2
theorem gq48.F_nat {R S : Type} (g : R → Option S) (kk : Int → Int → Int → Int → ByteArray → Option R) (a_Id a_Seq a_Last_Kind a_Last_Place a_Last_Value) : gq48.F (fun y0 y1 y2 y3 y4 => (kk y0 y1 y2 y3 y4).bind g) a_Id a_Seq a_Last_Kind a_Last_Place a_Last_Value = (gq48.F kk a_Id a_Seq a_Last_Kind a_Last_Place a_Last_Value).bind g := by
 simp only [gq48.F, grd_bind, cnd_bind, bnd_bind, non_bind]
def gq48 (a_Id : Int) (a_Seq : Int) (a_Last_Kind : Int) (a_Last_Place : Int) (a_Last_Value : ByteArray) : Option (Int × Int × Int × Int × ByteArray) := gq48.F (fun y0 y1 y2 y3 y4 => some (y0, y1, y2, y3, y4)) a_Id a_Seq a_Last_Kind a_Last_Place a_Last_Value
def gq48.out : (Int × Int × Int × Int × ByteArray) → CRes := fun a => ⟨encL SV.enc [.agg [.int .i64, .int .i64, .int .i64, .int .i64, .str]] ((a.1, a.2.1, a.2.2.1, a.2.2.2.1, a.2.2.2.2, ()), ()), [encL SC.enc [] ()]⟩
def gq48.ps : List PS := [.val [none, none, none, none, none]]
def gq48.sA : List SA := [.v (.agg [.int .i64, .int .i64, .int .i64, .int .i64, .str])]
def gq48.fi : FI := FIs gq48.sA (Int × Int × Int × Int × ByteArray) (fun t => gq48 t.1.1 t.1.2.1 t.1.2.2.1 t.1.2.2.2.1 t.1.2.2.2.2.1) gq48.out gq48.ps
def gq48.E : Env := ⟨tt, lkF [(68, gq68.fi)], 15, 0, [], []⟩
theorem gq48.hok (hE : EOk Try.prog (gq48.E)) : HintOk Try.prog gq48.E (bodyOf Try.f48) (.a) := HintOk.n1 (Q := True) (by kernel_rfl) trivial
theorem gq48.hE : EOk Try.prog (gq48.E) := EOk.of ttOk (⟨gq68.fok, trivial⟩)
theorem gq48.fok : FOk Try.prog 48 gq48.fi :=
 fokS (E := gq48.E) (wy := ⟨[[none, none, none, none, none]], [[]], []⟩) (h := (fun gs => .a)) (G := fun t g => gq48.F (fun y0 y1 y2 y3 y4 => g (y0, y1, y2, y3, y4)) t.1.1 t.1.2.1 t.1.2.2.1 t.1.2.2.2.1 t.1.2.2.2.2.1) (by kernel_rfl) gq48.hE Try.func48 (by kernel_rfl) rfl (Nat.le_refl _) (fun t => HintOk.n1 (by kernel_rfl) (gq48.hok gq48.hE)) (fun t g => gq48.F_nat g (fun y0 y1 y2 y3 y4 => some (y0, y1, y2, y3, y4)) _ _ _ _ _) (fun t => by kernel_rfl)
end
end Go.Proofs.YtooijdhcaghdlaaA
