/-
  Functions of the program, and that the small machine's runs are these. No condition.
  Printed by wip/amp/main.py (a session's own program) out of Lean's print of the program; Lean's kernel checks it.
-/
import Derived.Test.YtooijdhcaghdlaaXuF1
namespace Go.Proofs.YtooijdhcaghdlaaA
open Go
noncomputable section
set_option linter.unusedVariables false
set_option linter.unusedSimpArgs false
set_option maxRecDepth 100000
def gq55.l1 {R : Type} (rc : ByteArray → ByteArray → Int → List (El kk8eb) → ByteArray → ByteArray → Int → List (El kk8eb) → Option Bool) (kke0 : Option R) (kkr : Bool → Option R) : Nat → List (El kk8eb) → List (El kk8eb) → Int → Option R
 | 0, _, _, _ => none
 | n + 1, a, b, i =>
  cond (decide (i < (List.length a : Int))) (
   grd (gIx i (List.length a)) <|
   grd (gIx i (List.length b)) <|
   (rc ((Tree.val (rdE kk8eb a (Int.toNat i))).1) ((Tree.val (rdE kk8eb a (Int.toNat i))).2.1) ((Tree.val (rdE kk8eb a (Int.toNat i))).2.2) (Tree.kids (rdE kk8eb a (Int.toNat i))) ((Tree.val (rdE kk8eb b (Int.toNat i))).1) ((Tree.val (rdE kk8eb b (Int.toNat i))).2.1) ((Tree.val (rdE kk8eb b (Int.toNat i))).2.2) (Tree.kids (rdE kk8eb b (Int.toNat i)))).bind fun r =>
   cond (!r) (kkr false) (gq55.l1 rc kke0 kkr n a b (IntKind.wrap .i64 (i + (1 : Int))))) (kke0)
theorem gq55.l1_nat {R S : Type} (g : R → Option S) (rc : ByteArray → ByteArray → Int → List (El kk8eb) → ByteArray → ByteArray → Int → List (El kk8eb) → Option Bool) (kke0 : Option R) (kkr : Bool → Option R) : ∀ n a b i, gq55.l1 rc (kke0.bind g) (fun y0 => (kkr y0).bind g) n a b i = (gq55.l1 rc kke0 kkr n a b i).bind g := by
 intro n
 induction n with
 | zero => intros; rfl
 | succ n ih => intros; simp only [gq55.l1, grd_bind, cnd_bind, bnd_bind, non_bind, ih]
def gq55.F {R : Type} (rc : ByteArray → ByteArray → Int → List (El kk8eb) → ByteArray → ByteArray → Int → List (El kk8eb) → Option Bool) (kk : Bool → Option R) (a : List (El kk8eb)) (b : List (El kk8eb)) : Option R :=
 cond ((List.length a : Int) != (List.length b : Int)) (kk false) (gq55.l1 rc (kk true) (fun b1 => kk b1) fuel a b (0 : Int))
theorem gq55.F_nat {R S : Type} (g : R → Option S) (rc : ByteArray → ByteArray → Int → List (El kk8eb) → ByteArray → ByteArray → Int → List (El kk8eb) → Option Bool) (kk : Bool → Option R) (a b) : gq55.F rc (fun y0 => (kk y0).bind g) a b = (gq55.F rc kk a b).bind g := by
 simp only [gq55.F, grd_bind, cnd_bind, bnd_bind, non_bind, ← gq55.l1_nat]
def gq55 (rc : ByteArray → ByteArray → Int → List (El kk8eb) → ByteArray → ByteArray → Int → List (El kk8eb) → Option Bool) (a : List (El kk8eb)) (b : List (El kk8eb)) : Option Bool := gq55.F rc (fun y0 => some y0) a b
def gq30.F {R : Type} (rc : ByteArray → ByteArray → Int → List (El kk8eb) → ByteArray → ByteArray → Int → List (El kk8eb) → Option Bool) (kk : Bool → Option R) (a_Key : ByteArray) (a_Value : ByteArray) (a_At : Int) (a_Kids : List (El kk8eb)) (b_Key : ByteArray) (b_Value : ByteArray) (b_At : Int) (b_Kids : List (El kk8eb)) : Option R :=
 cond (!(sEq a_Key b_Key)) (kk false) (
  cond (!(sEq a_Value b_Value)) (kk false) (
   cond (a_At != b_At) (kk false) (
    (gq55 rc a_Kids b_Kids).bind fun r =>
    cond (!r) (kk false) (kk true))))
theorem gq30.F_nat {R S : Type} (g : R → Option S) (rc : ByteArray → ByteArray → Int → List (El kk8eb) → ByteArray → ByteArray → Int → List (El kk8eb) → Option Bool) (kk : Bool → Option R) (a_Key a_Value a_At a_Kids b_Key b_Value b_At b_Kids) : gq30.F rc (fun y0 => (kk y0).bind g) a_Key a_Value a_At a_Kids b_Key b_Value b_At b_Kids = (gq30.F rc kk a_Key a_Value a_At a_Kids b_Key b_Value b_At b_Kids).bind g := by
 simp only [gq30.F, grd_bind, cnd_bind, bnd_bind, non_bind]
def gq30 : Nat → ByteArray → ByteArray → Int → List (El kk8eb) → ByteArray → ByteArray → Int → List (El kk8eb) → Option Bool
 | 0, _, _, _, _, _, _, _, _ => none
 | fu + 1, a_Key, a_Value, a_At, a_Kids, b_Key, b_Value, b_At, b_Kids => gq30.F (gq30 fu) (fun y0 => some y0) a_Key a_Value a_At a_Kids b_Key b_Value b_At b_Kids
theorem gq30_nat {S : Type} (fu : Nat) (g : Bool → Option S) (a_Key : ByteArray) (a_Value : ByteArray) (a_At : Int) (a_Kids : List (El kk8eb)) (b_Key : ByteArray) (b_Value : ByteArray) (b_At : Int) (b_Kids : List (El kk8eb)) : gq30.F (gq30 fu) (fun y0 => g y0) a_Key a_Value a_At a_Kids b_Key b_Value b_At b_Kids = (gq30 (fu + 1) a_Key a_Value a_At a_Kids b_Key b_Value b_At b_Kids).bind g := gq30.F_nat g (gq30 fu) (fun y0 => some y0) a_Key a_Value a_At a_Kids b_Key b_Value b_At b_Kids
def gq30.out : Bool → CRes := fun a => ⟨encL SV.enc [.one (.bool)] (a, ()), [encL SC.enc [] (), encL SC.enc [] ()]⟩
def gq30.ps : List PS := [.val [none, none, none, some (kk8eb, false)], .val [none, none, none, some (kk8eb, false)]]
def gq30.sA : List SA := [.v (.agg [.str, .str, .int .i64, .slv [] kk8eb]), .v (.agg [.str, .str, .int .i64, .slv [] kk8eb])]
def gq30.fi (fu : Nat) : FI := FIs gq30.sA (Bool) (fun t => gq30 fu t.1.1 t.1.2.1 t.1.2.2.1 t.1.2.2.2.1 t.2.1.1 t.2.1.2.1 t.2.1.2.2.1 t.2.1.2.2.2.1) gq30.out gq30.ps
def gq55.out : Bool → CRes := fun a => ⟨encL SV.enc [.one (.bool)] (a, ()), [encL SC.enc [] (), encL SC.enc [] ()]⟩
def gq55.ps : List PS := [.val [some (kk8eb, false)], .val [some (kk8eb, false)]]
def gq55.sA : List SA := [.v (.one (.slv [] kk8eb)), .v (.one (.slv [] kk8eb))]
def gq55.fi (fu : Nat) : FI := FIs gq55.sA (Bool) (fun t => gq55 (gq30 fu) t.1 t.2.1) gq55.out gq55.ps
def gq55.E (fu : Nat) : Env := ⟨tt, lkF [(30, gq30.fi fu)], 27, 0, [], []⟩
def gq55.sh1 : SK := ⟨[.v (.one (.slv [1] kk8eb)), .v (.one (.slv [2] kk8eb)), .v (.one (.int .i64))], []⟩
def gq55.sh1e0 : SK := ⟨[], []⟩
def gq55.sh1r : SK := ⟨[.v (.one (.bool))], []⟩
def gq55.ko1 : Ex → List CastAt × List Nat
 | .nrm => ([], [])
 | .ret => ([], [4])
 | .ext i => cond (Nat.beq i 0) ([], []) ([], [])
def gq55.G1 (fu : Nat) (n : Nat) (R : Type) (t : gq55.sh1.T) (K : Ex → Kp → Option R) : Option R := gq55.l1 (gq30 fu) (K (.ext 0) (SK.enc gq55.sh1e0 ((), ()))) (fun y0 => K .ret (SK.enc gq55.sh1r ((y0, ()), ()))) n t.1.1 t.1.2.1 t.1.2.2.1
def gq55.S1 (fu : Nat) : Sum := ⟨([], [0, 1, 5]), sumF gq55.sh1 (gq55.G1 fu fuel), gq55.ko1⟩
theorem gq55.ok1 (fu : Nat) (hE : EOk Try.prog (gq55.E fu)) : SumOk Try.prog (gq55.E fu) (cB (cR (cL (cR (cR (bodyOf Try.f55)))))) (gq55.S1 fu) := by
 have hh : HintOk Try.prog (gq55.E fu) (cB (cB (cR (cL (cR (cR (bodyOf Try.f55))))))) (.a) := HintOk.n1 (Q := True) (by kernel_rfl) trivial
 have h := loopS (kin := ([], [0, 1, 5])) (kout := gq55.ko1) (sh := gq55.sh1) (F := gq55.G1 fu) (ops_ok (hE.gv _)) (by kernel_rfl) hh (fun _ _ _ => rfl) (fun n R t K => by kernel_rfl) fuel
 exact HintOk.n1 (c := (cB (cR (cL (cR (cR (bodyOf Try.f55))))))) (h := .s (gq55.S1 fu)) (P := Try.prog) (E := (gq55.E fu)) (by kernel_rfl) h
theorem gq55.hok (fu : Nat) (hE : EOk Try.prog (gq55.E fu)) : HintOk Try.prog (gq55.E fu) (bodyOf Try.f55) (.n (.a) (.n (.a) (.n (.n (.a) (.b (.s (gq55.S1 fu)))) (.a)))) := HintOk.n1 (Q := (True) ∧ ((True) ∧ (((True) ∧ (SumOk Try.prog (gq55.E fu) (cB (cR (cL (cR (cR (bodyOf Try.f55)))))) (gq55.S1 fu))) ∧ (True)))) (by kernel_rfl) ⟨trivial, ⟨trivial, ⟨⟨trivial, (gq55.ok1 fu hE)⟩, trivial⟩⟩⟩
theorem gq55.fok (fu : Nat) (ih : FOk Try.prog 30 (gq30.fi fu)) : FOk Try.prog 55 (gq55.fi fu) := by
 have hE : EOk Try.prog (gq55.E fu) := EOk.of ttOk (⟨ih, trivial⟩)
 exact fokS (E := gq55.E fu) (wy := ⟨[[none]], [[], []], []⟩) (h := (fun gs => .n (.a) (.n (.a) (.n (.n (.a) (.b (.s (gq55.S1 fu)))) (.a))))) (G := fun t g => gq55.F (gq30 fu) (fun y0 => g y0) t.1 t.2.1) (by kernel_rfl) hE Try.func55 (by kernel_rfl) rfl (Nat.le_refl _) (fun t => HintOk.n1 (by kernel_rfl) (gq55.hok fu hE)) (fun t g => gq55.F_nat g (gq30 fu) (fun y0 => some y0) _ _) (fun t => by kernel_rfl)
def gq30.E (fu : Nat) : Env := ⟨tt, lkF [(55, gq55.fi fu)], 26, 0, [], []⟩
theorem gq30.hok (fu : Nat) (hE : EOk Try.prog (gq30.E fu)) : HintOk Try.prog (gq30.E fu) (bodyOf Try.f30) (.a) := HintOk.n1 (Q := True) (by kernel_rfl) trivial
theorem gq30.fok0 : FOk Try.prog 30 (gq30.fi 0) := FOk.zero ⟨_, _, Try.func30, by kernel_rfl, rfl⟩ (fun _ => rfl)
theorem gq30.fok1 (fu : Nat) (ih : FOk Try.prog 30 (gq30.fi fu)) : FOk Try.prog 30 (gq30.fi (fu + 1)) := by
 have hE : EOk Try.prog (gq30.E fu) := EOk.of ttOk (⟨gq55.fok fu ih, trivial⟩)
 exact fokS (E := gq30.E fu) (wy := ⟨[[none]], [[], []], []⟩) (h := (fun gs => .a)) (G := fun t g => gq30.F (gq30 fu) (fun y0 => g y0) t.1.1 t.1.2.1 t.1.2.2.1 t.1.2.2.2.1 t.2.1.1 t.2.1.2.1 t.2.1.2.2.1 t.2.1.2.2.2.1) (by kernel_rfl) hE Try.func30 (by kernel_rfl) rfl (Nat.le_refl _) (fun t => HintOk.n1 (by kernel_rfl) (gq30.hok fu hE)) (fun t g => gq30_nat fu g t.1.1 t.1.2.1 t.1.2.2.1 t.1.2.2.2.1 t.2.1.1 t.2.1.2.1 t.2.1.2.2.1 t.2.1.2.2.2.1) (fun t => by kernel_rfl)
theorem gq30.fok (fu : Nat) : FOk Try.prog 30 (gq30.fi fu) := Nat.rec gq30.fok0 gq30.fok1 fu
def gq78.F {R : Type} (kk : Bool → Option R) (a_Kind : Int) (a_Place : Int) (a_Value : ByteArray) (b_Kind : Int) (b_Place : Int) (b_Value : ByteArray) : Option R :=
 cond (a_Kind != b_Kind) (kk false) (cond (a_Place != b_Place) (kk false) (cond (!(sEq a_Value b_Value)) (kk false) (kk true)))
theorem gq78.F_nat {R S : Type} (g : R → Option S) (kk : Bool → Option R) (a_Kind a_Place a_Value b_Kind b_Place b_Value) : gq78.F (fun y0 => (kk y0).bind g) a_Kind a_Place a_Value b_Kind b_Place b_Value = (gq78.F kk a_Kind a_Place a_Value b_Kind b_Place b_Value).bind g := by
 simp only [gq78.F, grd_bind, cnd_bind, bnd_bind, non_bind]
def gq78 (a_Kind : Int) (a_Place : Int) (a_Value : ByteArray) (b_Kind : Int) (b_Place : Int) (b_Value : ByteArray) : Option Bool := gq78.F (fun y0 => some y0) a_Kind a_Place a_Value b_Kind b_Place b_Value
def gq78.out : Bool → CRes := fun a => ⟨encL SV.enc [.one (.bool)] (a, ()), [encL SC.enc [] (), encL SC.enc [] ()]⟩
def gq78.ps : List PS := [.val [none, none, none], .val [none, none, none]]
def gq78.sA : List SA := [.v (.agg [.int .i64, .int .i64, .str]), .v (.agg [.int .i64, .int .i64, .str])]
def gq78.fi : FI := FIs gq78.sA (Bool) (fun t => gq78 t.1.1 t.1.2.1 t.1.2.2.1 t.2.1.1 t.2.1.2.1 t.2.1.2.2.1) gq78.out gq78.ps
def gq78.E : Env := ⟨tt, lkF [], 20, 0, [], []⟩
theorem gq78.hok (hE : EOk Try.prog (gq78.E)) : HintOk Try.prog gq78.E (bodyOf Try.f78) (.a) := HintOk.n1 (Q := True) (by kernel_rfl) trivial
theorem gq78.hE : EOk Try.prog (gq78.E) := EOk.of ttOk (trivial)
theorem gq78.fok : FOk Try.prog 78 gq78.fi :=
 fokS (E := gq78.E) (wy := ⟨[[none]], [[], []], []⟩) (h := (fun gs => .a)) (G := fun t g => gq78.F (fun y0 => g y0) t.1.1 t.1.2.1 t.1.2.2.1 t.2.1.1 t.2.1.2.1 t.2.1.2.2.1) (by kernel_rfl) gq78.hE Try.func78 (by kernel_rfl) rfl (Nat.le_refl _) (fun t => HintOk.n1 (by kernel_rfl) (gq78.hok gq78.hE)) (fun t g => gq78.F_nat g (fun y0 => some y0) _ _ _ _ _ _) (fun t => by kernel_rfl)
def gq56.F {R : Type} (kk : Bool → Option R) (a_Id : Int) (a_Seq : Int) (a_Last_Kind : Int) (a_Last_Place : Int) (a_Last_Value : ByteArray) (b_Id : Int) (b_Seq : Int) (b_Last_Kind : Int) (b_Last_Place : Int) (b_Last_Value : ByteArray) : Option R :=
 cond (a_Id != b_Id) (kk false) (
  cond (a_Seq != b_Seq) (kk false) (
   (gq78 a_Last_Kind a_Last_Place a_Last_Value b_Last_Kind b_Last_Place b_Last_Value).bind fun r =>
   cond (!r) (kk false) (kk true)))
theorem gq56.F_nat {R S : Type} (g : R → Option S) (kk : Bool → Option R) (a_Id a_Seq a_Last_Kind a_Last_Place a_Last_Value b_Id b_Seq b_Last_Kind b_Last_Place b_Last_Value) : gq56.F (fun y0 => (kk y0).bind g) a_Id a_Seq a_Last_Kind a_Last_Place a_Last_Value b_Id b_Seq b_Last_Kind b_Last_Place b_Last_Value = (gq56.F kk a_Id a_Seq a_Last_Kind a_Last_Place a_Last_Value b_Id b_Seq b_Last_Kind b_Last_Place b_Last_Value).bind g := by
 simp only [gq56.F, grd_bind, cnd_bind, bnd_bind, non_bind]
def gq56 (a_Id : Int) (a_Seq : Int) (a_Last_Kind : Int) (a_Last_Place : Int) (a_Last_Value : ByteArray) (b_Id : Int) (b_Seq : Int) (b_Last_Kind : Int) (b_Last_Place : Int) (b_Last_Value : ByteArray) : Option Bool := gq56.F (fun y0 => some y0) a_Id a_Seq a_Last_Kind a_Last_Place a_Last_Value b_Id b_Seq b_Last_Kind b_Last_Place b_Last_Value
def gq56.out : Bool → CRes := fun a => ⟨encL SV.enc [.one (.bool)] (a, ()), [encL SC.enc [] (), encL SC.enc [] ()]⟩
def gq56.ps : List PS := [.val [none, none, none, none, none], .val [none, none, none, none, none]]
def gq56.sA : List SA := [.v (.agg [.int .i64, .int .i64, .int .i64, .int .i64, .str]), .v (.agg [.int .i64, .int .i64, .int .i64, .int .i64, .str])]
def gq56.fi : FI := FIs gq56.sA (Bool) (fun t => gq56 t.1.1 t.1.2.1 t.1.2.2.1 t.1.2.2.2.1 t.1.2.2.2.2.1 t.2.1.1 t.2.1.2.1 t.2.1.2.2.1 t.2.1.2.2.2.1 t.2.1.2.2.2.2.1) gq56.out gq56.ps
def gq56.E : Env := ⟨tt, lkF [(78, gq78.fi)], 21, 0, [], []⟩
theorem gq56.hok (hE : EOk Try.prog (gq56.E)) : HintOk Try.prog gq56.E (bodyOf Try.f56) (.a) := HintOk.n1 (Q := True) (by kernel_rfl) trivial
theorem gq56.hE : EOk Try.prog (gq56.E) := EOk.of ttOk (⟨gq78.fok, trivial⟩)
theorem gq56.fok : FOk Try.prog 56 gq56.fi :=
 fokS (E := gq56.E) (wy := ⟨[[none]], [[], []], []⟩) (h := (fun gs => .a)) (G := fun t g => gq56.F (fun y0 => g y0) t.1.1 t.1.2.1 t.1.2.2.1 t.1.2.2.2.1 t.1.2.2.2.2.1 t.2.1.1 t.2.1.2.1 t.2.1.2.2.1 t.2.1.2.2.2.1 t.2.1.2.2.2.2.1) (by kernel_rfl) gq56.hE Try.func56 (by kernel_rfl) rfl (Nat.le_refl _) (fun t => HintOk.n1 (by kernel_rfl) (gq56.hok gq56.hE)) (fun t g => gq56.F_nat g (fun y0 => some y0) _ _ _ _ _ _ _ _ _ _) (fun t => by kernel_rfl)
def gq31.l1 {R : Type} (kke0 : Option R) (kkr : Bool → Option R) : Nat → List (El kkb2) → List (El kkb2) → Int → Option R
 | 0, _, _, _ => none
 | n + 1, a, b, i =>
  cond (decide (i < (List.length a : Int))) (
   grd (gIx i (List.length a)) <|
   grd (gIx i (List.length b)) <|
   (gq56 ((rdE kkb2 a (Int.toNat i)).1) ((rdE kkb2 a (Int.toNat i)).2.1) ((rdE kkb2 a (Int.toNat i)).2.2.1) ((rdE kkb2 a (Int.toNat i)).2.2.2.1) ((rdE kkb2 a (Int.toNat i)).2.2.2.2) ((rdE kkb2 b (Int.toNat i)).1) ((rdE kkb2 b (Int.toNat i)).2.1) ((rdE kkb2 b (Int.toNat i)).2.2.1) ((rdE kkb2 b (Int.toNat i)).2.2.2.1) ((rdE kkb2 b (Int.toNat i)).2.2.2.2)).bind fun r =>
   cond (!r) (kkr false) (gq31.l1 kke0 kkr n a b (IntKind.wrap .i64 (i + (1 : Int))))) (kke0)
theorem gq31.l1_nat {R S : Type} (g : R → Option S) (kke0 : Option R) (kkr : Bool → Option R) : ∀ n a b i, gq31.l1 (kke0.bind g) (fun y0 => (kkr y0).bind g) n a b i = (gq31.l1 kke0 kkr n a b i).bind g := by
 intro n
 induction n with
 | zero => intros; rfl
 | succ n ih => intros; simp only [gq31.l1, grd_bind, cnd_bind, bnd_bind, non_bind, ih]
def gq31.F {R : Type} (kk : Bool → Option R) (a : List (El kkb2)) (b : List (El kkb2)) : Option R :=
 cond ((List.length a : Int) != (List.length b : Int)) (kk false) (gq31.l1 (kk true) (fun b1 => kk b1) fuel a b (0 : Int))
theorem gq31.F_nat {R S : Type} (g : R → Option S) (kk : Bool → Option R) (a b) : gq31.F (fun y0 => (kk y0).bind g) a b = (gq31.F kk a b).bind g := by
 simp only [gq31.F, grd_bind, cnd_bind, bnd_bind, non_bind, ← gq31.l1_nat]
def gq31 (a : List (El kkb2)) (b : List (El kkb2)) : Option Bool := gq31.F (fun y0 => some y0) a b
def gq31.out : Bool → CRes := fun a => ⟨encL SV.enc [.one (.bool)] (a, ()), [encL SC.enc [] (), encL SC.enc [] ()]⟩
def gq31.ps : List PS := [.val [some (kkb2, false)], .val [some (kkb2, false)]]
def gq31.sA : List SA := [.v (.one (.slv [] kkb2)), .v (.one (.slv [] kkb2))]
def gq31.fi : FI := FIs gq31.sA (Bool) (fun t => gq31 t.1 t.2.1) gq31.out gq31.ps
def gq31.E : Env := ⟨tt, lkF [(56, gq56.fi)], 27, 0, [], []⟩
def gq31.sh1 : SK := ⟨[.v (.one (.slv [1] kkb2)), .v (.one (.slv [2] kkb2)), .v (.one (.int .i64))], []⟩
def gq31.sh1e0 : SK := ⟨[], []⟩
def gq31.sh1r : SK := ⟨[.v (.one (.bool))], []⟩
def gq31.ko1 : Ex → List CastAt × List Nat
 | .nrm => ([], [])
 | .ret => ([], [4])
 | .ext i => cond (Nat.beq i 0) ([], []) ([], [])
def gq31.G1 (n : Nat) (R : Type) (t : gq31.sh1.T) (K : Ex → Kp → Option R) : Option R := gq31.l1 (K (.ext 0) (SK.enc gq31.sh1e0 ((), ()))) (fun y0 => K .ret (SK.enc gq31.sh1r ((y0, ()), ()))) n t.1.1 t.1.2.1 t.1.2.2.1
def gq31.S1 : Sum := ⟨([], [0, 1, 5]), sumF gq31.sh1 (gq31.G1 fuel), gq31.ko1⟩
theorem gq31.ok1 (hE : EOk Try.prog (gq31.E)) : SumOk Try.prog gq31.E (cB (cR (cL (cR (cR (bodyOf Try.f31)))))) (gq31.S1) := by
 have hh : HintOk Try.prog gq31.E (cB (cB (cR (cL (cR (cR (bodyOf Try.f31))))))) (.a) := HintOk.n1 (Q := True) (by kernel_rfl) trivial
 have h := loopS (kin := ([], [0, 1, 5])) (kout := gq31.ko1) (sh := gq31.sh1) (F := gq31.G1) (ops_ok (hE.gv _)) (by kernel_rfl) hh (fun _ _ _ => rfl) (fun n R t K => by kernel_rfl) fuel
 exact HintOk.n1 (c := (cB (cR (cL (cR (cR (bodyOf Try.f31))))))) (h := .s (gq31.S1)) (P := Try.prog) (E := gq31.E) (by kernel_rfl) h
theorem gq31.hok (hE : EOk Try.prog (gq31.E)) : HintOk Try.prog gq31.E (bodyOf Try.f31) (.n (.a) (.n (.a) (.n (.n (.a) (.b (.s (gq31.S1)))) (.a)))) := HintOk.n1 (Q := (True) ∧ ((True) ∧ (((True) ∧ (SumOk Try.prog gq31.E (cB (cR (cL (cR (cR (bodyOf Try.f31)))))) (gq31.S1))) ∧ (True)))) (by kernel_rfl) ⟨trivial, ⟨trivial, ⟨⟨trivial, (gq31.ok1 hE)⟩, trivial⟩⟩⟩
theorem gq31.hE : EOk Try.prog (gq31.E) := EOk.of ttOk (⟨gq56.fok, trivial⟩)
theorem gq31.fok : FOk Try.prog 31 gq31.fi :=
 fokS (E := gq31.E) (wy := ⟨[[none]], [[], []], []⟩) (h := (fun gs => .n (.a) (.n (.a) (.n (.n (.a) (.b (.s (gq31.S1)))) (.a))))) (G := fun t g => gq31.F (fun y0 => g y0) t.1 t.2.1) (by kernel_rfl) gq31.hE Try.func31 (by kernel_rfl) rfl (Nat.le_refl _) (fun t => HintOk.n1 (by kernel_rfl) (gq31.hok gq31.hE)) (fun t g => gq31.F_nat g (fun y0 => some y0) _ _) (fun t => by kernel_rfl)
def gq11.F {R : Type} (kk : Bool → Option R) (a_Leaves : List ByteArray) (a_Map_Key : ByteArray) (a_Map_Value : ByteArray) (a_Map_At : Int) (a_Map_Kids : List (El kk8eb)) (a_Sessions : List (El kkb2)) (b_Leaves : List ByteArray) (b_Map_Key : ByteArray) (b_Map_Value : ByteArray) (b_Map_At : Int) (b_Map_Kids : List (El kk8eb)) (b_Sessions : List (El kkb2)) : Option R :=
 (gq14 a_Leaves b_Leaves).bind fun r =>
 cond (!r) (kk false) (
  (gq30 fuel a_Map_Key a_Map_Value a_Map_At a_Map_Kids b_Map_Key b_Map_Value b_Map_At b_Map_Kids).bind fun r1 =>
  cond (!r1) (kk false) (
   (gq31 a_Sessions b_Sessions).bind fun r2 =>
   cond (!r2) (kk false) (kk true)))
theorem gq11.F_nat {R S : Type} (g : R → Option S) (kk : Bool → Option R) (a_Leaves a_Map_Key a_Map_Value a_Map_At a_Map_Kids a_Sessions b_Leaves b_Map_Key b_Map_Value b_Map_At b_Map_Kids b_Sessions) : gq11.F (fun y0 => (kk y0).bind g) a_Leaves a_Map_Key a_Map_Value a_Map_At a_Map_Kids a_Sessions b_Leaves b_Map_Key b_Map_Value b_Map_At b_Map_Kids b_Sessions = (gq11.F kk a_Leaves a_Map_Key a_Map_Value a_Map_At a_Map_Kids a_Sessions b_Leaves b_Map_Key b_Map_Value b_Map_At b_Map_Kids b_Sessions).bind g := by
 simp only [gq11.F, grd_bind, cnd_bind, bnd_bind, non_bind]
def gq11 (a_Leaves : List ByteArray) (a_Map_Key : ByteArray) (a_Map_Value : ByteArray) (a_Map_At : Int) (a_Map_Kids : List (El kk8eb)) (a_Sessions : List (El kkb2)) (b_Leaves : List ByteArray) (b_Map_Key : ByteArray) (b_Map_Value : ByteArray) (b_Map_At : Int) (b_Map_Kids : List (El kk8eb)) (b_Sessions : List (El kkb2)) : Option Bool := gq11.F (fun y0 => some y0) a_Leaves a_Map_Key a_Map_Value a_Map_At a_Map_Kids a_Sessions b_Leaves b_Map_Key b_Map_Value b_Map_At b_Map_Kids b_Sessions
def gq11.out : Bool → CRes := fun a => ⟨encL SV.enc [.one (.bool)] (a, ()), [encL SC.enc [] (), encL SC.enc [] ()]⟩
def gq11.ps : List PS := [.val [some (.str, false), none, none, none, some (kk8eb, false), some (kkb2, false)], .val [some (.str, false), none, none, none, some (kk8eb, false), some (kkb2, false)]]
def gq11.sA : List SA := [.v (.agg [.slv [] .str, .str, .str, .int .i64, .slv [] kk8eb, .slv [] kkb2]), .v (.agg [.slv [] .str, .str, .str, .int .i64, .slv [] kk8eb, .slv [] kkb2])]
def gq11.fi : FI := FIs gq11.sA (Bool) (fun t => gq11 t.1.1 t.1.2.1 t.1.2.2.1 t.1.2.2.2.1 t.1.2.2.2.2.1 t.1.2.2.2.2.2.1 t.2.1.1 t.2.1.2.1 t.2.1.2.2.1 t.2.1.2.2.2.1 t.2.1.2.2.2.2.1 t.2.1.2.2.2.2.2.1) gq11.out gq11.ps
def gq11.E : Env := ⟨tt, lkF [(14, gq14.fi), (30, gq30.fi fuel), (31, gq31.fi)], 23, 0, [], []⟩
theorem gq11.hok (hE : EOk Try.prog (gq11.E)) : HintOk Try.prog gq11.E (bodyOf Try.f11) (.a) := HintOk.n1 (Q := True) (by kernel_rfl) trivial
theorem gq11.hE : EOk Try.prog (gq11.E) := EOk.of ttOk (⟨gq14.fok, ⟨gq30.fok fuel, ⟨gq31.fok, trivial⟩⟩⟩)
theorem gq11.fok : FOk Try.prog 11 gq11.fi :=
 fokS (E := gq11.E) (wy := ⟨[[none]], [[], []], []⟩) (h := (fun gs => .a)) (G := fun t g => gq11.F (fun y0 => g y0) t.1.1 t.1.2.1 t.1.2.2.1 t.1.2.2.2.1 t.1.2.2.2.2.1 t.1.2.2.2.2.2.1 t.2.1.1 t.2.1.2.1 t.2.1.2.2.1 t.2.1.2.2.2.1 t.2.1.2.2.2.2.1 t.2.1.2.2.2.2.2.1) (by kernel_rfl) gq11.hE Try.func11 (by kernel_rfl) rfl (Nat.le_refl _) (fun t => HintOk.n1 (by kernel_rfl) (gq11.hok gq11.hE)) (fun t g => gq11.F_nat g (fun y0 => some y0) _ _ _ _ _ _ _ _ _ _ _ _) (fun t => by kernel_rfl)
def gq3.F {R : Type} (kk : Bool → Option R) (aL_Leaves : List ByteArray) (aL_Map_Key : ByteArray) (aL_Map_Value : ByteArray) (aL_Map_At : Int) (aL_Map_Kids : List (El kk8eb)) (aL_Sessions : List (El kkb2)) : Option R :=
 (gq6 aL_Leaves aL_Map_Key aL_Map_Value aL_Map_At aL_Map_Kids aL_Sessions (1048576 : Int)).bind fun r =>
 cond (decide (r < (0 : Int))) (kk true) (
  (gq8 aL_Leaves aL_Map_Key aL_Map_Value aL_Map_At aL_Map_Kids aL_Sessions).bind fun r1 =>
  (gq7 r1.1 r1.2.1 r1.2.2.1 r1.2.2.2.1 r1.2.2.2.2.1 r1.2.2.2.2.2).bind fun r2 =>
  (gq8 aL_Leaves aL_Map_Key aL_Map_Value aL_Map_At aL_Map_Kids aL_Sessions).bind fun r3 =>
  (gq9 r3.1 r3.2.1 r3.2.2.1 r3.2.2.2.1 r3.2.2.2.2.1 r3.2.2.2.2.2).bind fun r4 =>
  (gq10 r4.1 r4.2.1 r4.2.2.1 r2.1 r2.2.1 r2.2.2.1).bind fun r5 =>
  cond (!r5) (kk false) (
   cond (r4.2.2.2 != r2.2.2.2) (kk false) (
    (gq8 aL_Leaves aL_Map_Key aL_Map_Value aL_Map_At aL_Map_Kids aL_Sessions).bind fun r6 =>
    (gq11 r3.1 r3.2.1 r3.2.2.1 r3.2.2.2.1 r3.2.2.2.2.1 r3.2.2.2.2.2 r6.1 r6.2.1 r6.2.2.1 r6.2.2.2.1 r6.2.2.2.2.1 r6.2.2.2.2.2).bind fun r7 =>
    cond (!r7) (kk false) (kk true))))
theorem gq3.F_nat {R S : Type} (g : R → Option S) (kk : Bool → Option R) (aL_Leaves aL_Map_Key aL_Map_Value aL_Map_At aL_Map_Kids aL_Sessions) : gq3.F (fun y0 => (kk y0).bind g) aL_Leaves aL_Map_Key aL_Map_Value aL_Map_At aL_Map_Kids aL_Sessions = (gq3.F kk aL_Leaves aL_Map_Key aL_Map_Value aL_Map_At aL_Map_Kids aL_Sessions).bind g := by
 simp only [gq3.F, grd_bind, cnd_bind, bnd_bind, non_bind]
def gq3 (aL_Leaves : List ByteArray) (aL_Map_Key : ByteArray) (aL_Map_Value : ByteArray) (aL_Map_At : Int) (aL_Map_Kids : List (El kk8eb)) (aL_Sessions : List (El kkb2)) : Option Bool := gq3.F (fun y0 => some y0) aL_Leaves aL_Map_Key aL_Map_Value aL_Map_At aL_Map_Kids aL_Sessions
def gq3.out : Bool → CRes := fun a => ⟨encL SV.enc [.one (.bool)] (a, ()), [encL SC.enc [] ()]⟩
def gq3.ps : List PS := [.val [some (.str, false), none, none, none, some (kk8eb, false), some (kkb2, false)]]
def gq3.sA : List SA := [.v (.agg [.slv [] .str, .str, .str, .int .i64, .slv [] kk8eb, .slv [] kkb2])]
def gq3.fi : FI := FIs gq3.sA (Bool) (fun t => gq3 t.1.1 t.1.2.1 t.1.2.2.1 t.1.2.2.2.1 t.1.2.2.2.2.1 t.1.2.2.2.2.2.1) gq3.out gq3.ps
def gq3.E : Env := ⟨tt, lkF [(6, gq6.fi), (7, gq7.fi), (8, gq8.fi), (9, gq9.fi), (10, gq10.fi), (11, gq11.fi)], 41, 0, [], []⟩
theorem gq3.hok (hE : EOk Try.prog (gq3.E)) : HintOk Try.prog gq3.E (bodyOf Try.f3) (.a) := HintOk.n1 (Q := True) (by kernel_rfl) trivial
theorem gq3.hE : EOk Try.prog (gq3.E) := EOk.of ttOk (⟨gq6.fok, ⟨gq7.fok, ⟨gq8.fok, ⟨gq9.fok, ⟨gq10.fok, ⟨gq11.fok, trivial⟩⟩⟩⟩⟩⟩)
theorem gq3.fok : FOk Try.prog 3 gq3.fi :=
 fokS (E := gq3.E) (wy := ⟨[[none]], [[]], []⟩) (h := (fun gs => .a)) (G := fun t g => gq3.F (fun y0 => g y0) t.1.1 t.1.2.1 t.1.2.2.1 t.1.2.2.2.1 t.1.2.2.2.2.1 t.1.2.2.2.2.2.1) (by kernel_rfl) gq3.hE Try.func3 (by kernel_rfl) rfl (Nat.le_refl _) (fun t => HintOk.n1 (by kernel_rfl) (gq3.hok gq3.hE)) (fun t g => gq3.F_nat g (fun y0 => some y0) _ _ _ _ _ _) (fun t => by kernel_rfl)
end
end Go.Proofs.YtooijdhcaghdlaaA
