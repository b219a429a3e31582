/-
  Functions of the program, and that the small machine's runs are these. No condition.
  Printed by wip/amp/main.py (a session's own program) out of Lean's print of the program; Lean's kernel checks it.
-/
import Derived.Test.YtooijdhcaghdlaaXuF0
namespace Go.Proofs.YtooijdhcaghdlaaA
open Go
noncomputable section
set_option linter.unusedVariables false
set_option linter.unusedSimpArgs false
set_option maxRecDepth 100000
def gq27.l1 {R : Type} (kke0 : List (El kkb2) → Option R) : Nat → List (El kkb2) → Int → List (El kkb2) → Option R
 | 0, _, _, _ => none
 | n + 1, a, i, out =>
  cond (decide (i < (List.length a : Int))) (
   grd (gIx i (List.length a)) <|
   (gq48 ((rdE kkb2 a (Int.toNat i)).1) ((rdE kkb2 a (Int.toNat i)).2.1) ((rdE kkb2 a (Int.toNat i)).2.2.1) ((rdE kkb2 a (Int.toNat i)).2.2.2.1) ((rdE kkb2 a (Int.toNat i)).2.2.2.2)).bind fun r =>
   grd (gIx i (List.length out)) <|
   gq27.l1 kke0 n a (IntKind.wrap .i64 (i + (1 : Int))) (setE kkb2 out (Int.toNat i) r)) (kke0 out)
theorem gq27.l1_nat {R S : Type} (g : R → Option S) (kke0 : List (El kkb2) → Option R) : ∀ n a i out, gq27.l1 (fun y0 => (kke0 y0).bind g) n a i out = (gq27.l1 kke0 n a i out).bind g := by
 intro n
 induction n with
 | zero => intros; rfl
 | succ n ih => intros; simp only [gq27.l1, grd_bind, cnd_bind, bnd_bind, non_bind, ih]
def gq27.F {R : Type} (kk : List (El kkb2) → Option R) (a : List (El kkb2)) : Option R :=
 grd (gMk (List.length a : Int) (List.length a : Int) 48) <|
 gq27.l1 (fun out => kk out) fuel a (0 : Int) (List.replicate (Int.toNat (List.length a : Int)) ((0 : Int), ((0 : Int), ((0 : Int), ((0 : Int), ByteArray.empty)))))
theorem gq27.F_nat {R S : Type} (g : R → Option S) (kk : List (El kkb2) → Option R) (a) : gq27.F (fun y0 => (kk y0).bind g) a = (gq27.F kk a).bind g := by
 simp only [gq27.F, grd_bind, cnd_bind, bnd_bind, non_bind, ← gq27.l1_nat]
def gq27 (a : List (El kkb2)) : Option (List (El kkb2)) := gq27.F (fun y0 => some y0) a
def gq27.out : (List (El kkb2)) → CRes := fun a => ⟨encL SV.enc [.one (.own [] kkb2 true)] (a, ()), [encL SC.enc [] ()]⟩
def gq27.ps : List PS := [.val [some (kkb2, false)]]
def gq27.sA : List SA := [.v (.one (.slv [] kkb2))]
def gq27.fi : FI := FIs gq27.sA (List (El kkb2)) (fun t => gq27 t.1) gq27.out gq27.ps
def gq27.E : Env := ⟨tt, lkF [(48, gq48.fi)], 23, 0, [], []⟩
def gq27.sh1 : SK := ⟨[.v (.one (.slv [1] kkb2)), .v (.one (.slo 0)), .v (.one (.int .i64))], [.arr kkb2 [] true]⟩
def gq27.sh1e0 : SK := ⟨[.v (.one (.slo 0))], [.arr kkb2 [] true]⟩
def gq27.ko1 : Ex → List CastAt × List Nat
 | .nrm => ([], [])
 | .ret => ([], [])
 | .ext i => cond (Nat.beq i 0) ([], [3]) ([], [])
def gq27.G1 (n : Nat) (R : Type) (t : gq27.sh1.T) (K : Ex → Kp → Option R) : Option R := gq27.l1 (fun y0 => K (.ext 0) (SK.enc gq27.sh1e0 (((), ()), (y0, ())))) n t.1.1 t.1.2.2.1 t.2.1
def gq27.S1 : Sum := ⟨([], [0, 3, 4]), sumF gq27.sh1 (gq27.G1 fuel), gq27.ko1⟩
theorem gq27.ok1 (hE : EOk Try.prog (gq27.E)) : SumOk Try.prog gq27.E (cB (cR (cL (cR (cR (bodyOf Try.f27)))))) (gq27.S1) := by
 have hh : HintOk Try.prog gq27.E (cB (cB (cR (cL (cR (cR (bodyOf Try.f27))))))) (.a) := HintOk.n1 (Q := True) (by kernel_rfl) trivial
 have h := loopS (kin := ([], [0, 3, 4])) (kout := gq27.ko1) (sh := gq27.sh1) (F := gq27.G1) (ops_ok (hE.gv _)) (by kernel_rfl) hh (fun _ _ _ => rfl) (fun n R t K => by kernel_rfl) fuel
 exact HintOk.n1 (c := (cB (cR (cL (cR (cR (bodyOf Try.f27))))))) (h := .s (gq27.S1)) (P := Try.prog) (E := gq27.E) (by kernel_rfl) h
theorem gq27.hok (hE : EOk Try.prog (gq27.E)) : HintOk Try.prog gq27.E (bodyOf Try.f27) (.n (.a) (.n (.a) (.n (.n (.a) (.b (.s (gq27.S1)))) (.a)))) := HintOk.n1 (Q := (True) ∧ ((True) ∧ (((True) ∧ (SumOk Try.prog gq27.E (cB (cR (cL (cR (cR (bodyOf Try.f27)))))) (gq27.S1))) ∧ (True)))) (by kernel_rfl) ⟨trivial, ⟨trivial, ⟨⟨trivial, (gq27.ok1 hE)⟩, trivial⟩⟩⟩
theorem gq27.hE : EOk Try.prog (gq27.E) := EOk.of ttOk (⟨gq48.fok, trivial⟩)
theorem gq27.fok : FOk Try.prog 27 gq27.fi :=
 fokS (E := gq27.E) (wy := ⟨[[some (kkb2, true)]], [[]], []⟩) (h := (fun gs => .n (.a) (.n (.a) (.n (.n (.a) (.b (.s (gq27.S1)))) (.a))))) (G := fun t g => gq27.F (fun y0 => g y0) t.1) (by kernel_rfl) gq27.hE Try.func27 (by kernel_rfl) rfl (Nat.le_refl _) (fun t => HintOk.n1 (by kernel_rfl) (gq27.hok gq27.hE)) (fun t g => gq27.F_nat g (fun y0 => some y0) _) (fun t => by kernel_rfl)
def gq8.F {R : Type} (kk : List ByteArray → ByteArray → ByteArray → Int → List (El kk8eb) → List (El kkb2) → Option R) (a_Leaves : List ByteArray) (a_Map_Key : ByteArray) (a_Map_Value : ByteArray) (a_Map_At : Int) (a_Map_Kids : List (El kk8eb)) (a_Sessions : List (El kkb2)) : Option R :=
 (gq25 a_Leaves).bind fun r =>
 (gq26 fuel a_Map_Key a_Map_Value a_Map_At a_Map_Kids).bind fun r1 =>
 (gq27 a_Sessions).bind fun r2 =>
 kk r r1.1 r1.2.1 r1.2.2.1 r1.2.2.2 r2
theorem gq8.F_nat {R S : Type} (g : R → Option S) (kk : List ByteArray → ByteArray → ByteArray → Int → List (El kk8eb) → List (El kkb2) → Option R) (a_Leaves a_Map_Key a_Map_Value a_Map_At a_Map_Kids a_Sessions) : gq8.F (fun y0 y1 y2 y3 y4 y5 => (kk y0 y1 y2 y3 y4 y5).bind g) a_Leaves a_Map_Key a_Map_Value a_Map_At a_Map_Kids a_Sessions = (gq8.F kk a_Leaves a_Map_Key a_Map_Value a_Map_At a_Map_Kids a_Sessions).bind g := by
 simp only [gq8.F, grd_bind, cnd_bind, bnd_bind, non_bind]
def gq8 (a_Leaves : List ByteArray) (a_Map_Key : ByteArray) (a_Map_Value : ByteArray) (a_Map_At : Int) (a_Map_Kids : List (El kk8eb)) (a_Sessions : List (El kkb2)) : Option (List ByteArray × ByteArray × ByteArray × Int × List (El kk8eb) × List (El kkb2)) := gq8.F (fun y0 y1 y2 y3 y4 y5 => some (y0, y1, y2, y3, y4, y5)) a_Leaves a_Map_Key a_Map_Value a_Map_At a_Map_Kids a_Sessions
def gq8.out : (List ByteArray × ByteArray × ByteArray × Int × List (El kk8eb) × List (El kkb2)) → CRes := fun a => ⟨encL SV.enc [.agg [.own [] .str true, .str, .str, .int .i64, .slv [0] kk8eb, .own [] kkb2 true]] ((a.1, a.2.1, a.2.2.1, a.2.2.2.1, a.2.2.2.2.1, a.2.2.2.2.2, ()), ()), [encL SC.enc [] ()]⟩
def gq8.ps : List PS := [.val [some (.str, false), none, none, none, some (kk8eb, false), some (kkb2, false)]]
def gq8.sA : List SA := [.v (.agg [.slv [] .str, .str, .str, .int .i64, .slv [] kk8eb, .slv [] kkb2])]
def gq8.fi : FI := FIs gq8.sA (List ByteArray × ByteArray × ByteArray × Int × List (El kk8eb) × List (El kkb2)) (fun t => gq8 t.1.1 t.1.2.1 t.1.2.2.1 t.1.2.2.2.1 t.1.2.2.2.2.1 t.1.2.2.2.2.2.1) gq8.out gq8.ps
def gq8.E : Env := ⟨tt, lkF [(25, gq25.fi), (26, gq26.fi fuel), (27, gq27.fi)], 17, 0, [], []⟩
theorem gq8.hok (hE : EOk Try.prog (gq8.E)) : HintOk Try.prog gq8.E (bodyOf Try.f8) (.a) := HintOk.n1 (Q := True) (by kernel_rfl) trivial
theorem gq8.hE : EOk Try.prog (gq8.E) := EOk.of ttOk (⟨gq25.fok, ⟨gq26.fok fuel, ⟨gq27.fok, trivial⟩⟩⟩)
theorem gq8.fok : FOk Try.prog 8 gq8.fi :=
 fokS (E := gq8.E) (wy := ⟨[[some (.str, true), none, none, none, some (kk8eb, false), some (kkb2, true)]], [[]], []⟩) (h := (fun gs => .a)) (G := fun t g => gq8.F (fun y0 y1 y2 y3 y4 y5 => g (y0, y1, y2, y3, y4, y5)) t.1.1 t.1.2.1 t.1.2.2.1 t.1.2.2.2.1 t.1.2.2.2.2.1 t.1.2.2.2.2.2.1) (by kernel_rfl) gq8.hE Try.func8 (by kernel_rfl) rfl (Nat.le_refl _) (fun t => HintOk.n1 (by kernel_rfl) (gq8.hok gq8.hE)) (fun t g => gq8.F_nat g (fun y0 y1 y2 y3 y4 y5 => some (y0, y1, y2, y3, y4, y5)) _ _ _ _ _ _) (fun t => by kernel_rfl)
def gq84.l1 {R : Type} (f : ((ByteArray × Unit) → Option (Bool × Unit))) (kke0 : Option R) (kkr : Int → Option R) : Nat → List ByteArray → Int → Int → Option R
 | 0, _, _, _ => none
 | n + 1, s, i, i1 =>
  cond (decide (i1 < i)) (
   grd (gIx i1 (List.length s)) <|
   (f (rdE (.str : Kd) s (Int.toNat i1), ())).bind fun r =>
   cond (r.1) (kkr i1) (gq84.l1 f kke0 kkr n s i (IntKind.wrap .i64 (i1 + (1 : Int))))) (kke0)
theorem gq84.l1_nat {R S : Type} (g : R → Option S) (f : ((ByteArray × Unit) → Option (Bool × Unit))) (kke0 : Option R) (kkr : Int → Option R) : ∀ n s i i1, gq84.l1 f (kke0.bind g) (fun y0 => (kkr y0).bind g) n s i i1 = (gq84.l1 f kke0 kkr n s i i1).bind g := by
 intro n
 induction n with
 | zero => intros; rfl
 | succ n ih => intros; simp only [gq84.l1, grd_bind, cnd_bind, bnd_bind, non_bind, ih]
def gq84.F {R : Type} (kk : Int → Option R) (s : List ByteArray) (f : ((ByteArray × Unit) → Option (Bool × Unit))) : Option R :=
 gq84.l1 f (kk (-1 : Int)) (fun i => kk i) fuel s (List.length s : Int) (0 : Int)
theorem gq84.F_nat {R S : Type} (g : R → Option S) (kk : Int → Option R) (s f) : gq84.F (fun y0 => (kk y0).bind g) s f = (gq84.F kk s f).bind g := by
 simp only [gq84.F, grd_bind, cnd_bind, bnd_bind, non_bind, ← gq84.l1_nat]
def gq84 (s : List ByteArray) (f : ((ByteArray × Unit) → Option (Bool × Unit))) : Option Int := gq84.F (fun y0 => some y0) s f
def gq84.out : Int → CRes := fun a => ⟨encL SV.enc [.one (.int .i64)] (a, ()), [encL SC.enc [] (), encL SC.enc [] ()]⟩
def gq84.ps : List PS := [.val [some (.str, false)], .fn [.one (.bool)]]
def gq84.sA : List SA := [.v (.one (.slv [] .str)), .fn [.one (.str)] [.one (.bool)]]
def gq84.fi : FI := FIs gq84.sA (Int) (fun t => gq84 t.1 t.2.1) gq84.out gq84.ps
def gq84.E : Env := ⟨tt, lkF [], 19, 0, [], []⟩
def gq84.sh1 : SK := ⟨[.v (.one (.slv [1] .str)), .v (.one (.fv 0)), .v (.one (.int .i64)), .v (.one (.int .i64))], []⟩
def gq84.sh1e0 : SK := ⟨[], []⟩
def gq84.sh1r : SK := ⟨[.v (.one (.int .i64))], []⟩
def gq84.ko1 : Ex → List CastAt × List Nat
 | .nrm => ([], [])
 | .ret => ([], [4])
 | .ext i => cond (Nat.beq i 0) ([], []) ([], [])
def gq84.G1 (f : ((ByteArray × Unit) → Option (Bool × Unit))) (n : Nat) (R : Type) (t : gq84.sh1.T) (K : Ex → Kp → Option R) : Option R := gq84.l1 f (K (.ext 0) (SK.enc gq84.sh1e0 ((), ()))) (fun y0 => K .ret (SK.enc gq84.sh1r ((y0, ()), ()))) n t.1.1 t.1.2.2.1 t.1.2.2.2.1
def gq84.S1 (f : ((ByteArray × Unit) → Option (Bool × Unit))) : Sum := ⟨([], [0, 1, 7, 8]), sumF gq84.sh1 (gq84.G1 f fuel), gq84.ko1⟩
theorem gq84.ok1 (f : ((ByteArray × Unit) → Option (Bool × Unit))) (hE : EOk Try.prog (gq84.E)) : SumOk Try.prog { (gq84.E) with gv := [fnE [.one (.str)] [.one (.bool)] f] } (cB (cR (cL (cR (bodyOf Try.f84))))) (gq84.S1 f) := by
 have hh : HintOk Try.prog { (gq84.E) with gv := [fnE [.one (.str)] [.one (.bool)] f] } (cB (cB (cR (cL (cR (bodyOf Try.f84)))))) (.a) := HintOk.n1 (Q := True) (by kernel_rfl) trivial
 have h := loopS (kin := ([], [0, 1, 7, 8])) (kout := gq84.ko1) (sh := gq84.sh1) (F := gq84.G1 f) (ops_ok (hE.gv _)) (by kernel_rfl) hh (fun _ _ _ => rfl) (fun n R t K => by kernel_rfl) fuel
 exact HintOk.n1 (c := (cB (cR (cL (cR (bodyOf Try.f84)))))) (h := .s (gq84.S1 f)) (P := Try.prog) (E := { (gq84.E) with gv := [fnE [.one (.str)] [.one (.bool)] f] }) (by kernel_rfl) h
theorem gq84.hok (f : ((ByteArray × Unit) → Option (Bool × Unit))) (hE : EOk Try.prog (gq84.E)) : HintOk Try.prog { (gq84.E) with gv := [fnE [.one (.str)] [.one (.bool)] f] } (bodyOf Try.f84) (.n (.a) (.n (.n (.a) (.b (.s (gq84.S1 f)))) (.a))) := HintOk.n1 (Q := (True) ∧ (((True) ∧ (SumOk Try.prog { (gq84.E) with gv := [fnE [.one (.str)] [.one (.bool)] f] } (cB (cR (cL (cR (bodyOf Try.f84))))) (gq84.S1 f))) ∧ (True))) (by kernel_rfl) ⟨trivial, ⟨⟨trivial, (gq84.ok1 f hE)⟩, trivial⟩⟩
theorem gq84.hE : EOk Try.prog (gq84.E) := EOk.of ttOk (trivial)
theorem gq84.fok : FOk Try.prog 84 gq84.fi :=
 fokS (E := gq84.E) (wy := ⟨[[none]], [[], []], []⟩) (h := (fun gs => let f := fnP [.one (.str)] [.one (.bool)] (gN 0 gs); .n (.a) (.n (.n (.a) (.b (.s (gq84.S1 f)))) (.a)))) (G := fun t g => gq84.F (fun y0 => g y0) t.1 t.2.1) (by kernel_rfl) gq84.hE Try.func84 (by kernel_rfl) rfl (Nat.le_refl _) (fun t => HintOk.n1 (by kernel_rfl) (gq84.hok t.2.1 gq84.hE)) (fun t g => gq84.F_nat g (fun y0 => some y0) _ _) (fun t => by kernel_rfl)
def gq69.F {R : Type} (kk : Bool → Option R) (s : List ByteArray) (f : ((ByteArray × Unit) → Option (Bool × Unit))) : Option R :=
 (gq84 s f).bind fun r =>
 kk (decide (r ≥ (0 : Int)))
theorem gq69.F_nat {R S : Type} (g : R → Option S) (kk : Bool → Option R) (s f) : gq69.F (fun y0 => (kk y0).bind g) s f = (gq69.F kk s f).bind g := by
 simp only [gq69.F, grd_bind, cnd_bind, bnd_bind, non_bind]
def gq69 (s : List ByteArray) (f : ((ByteArray × Unit) → Option (Bool × Unit))) : Option Bool := gq69.F (fun y0 => some y0) s f
def gq69.out : Bool → CRes := fun a => ⟨encL SV.enc [.one (.bool)] (a, ()), [encL SC.enc [] (), encL SC.enc [] ()]⟩
def gq69.ps : List PS := [.val [some (.str, false)], .fn [.one (.bool)]]
def gq69.sA : List SA := [.v (.one (.slv [] .str)), .fn [.one (.str)] [.one (.bool)]]
def gq69.fi : FI := FIs gq69.sA (Bool) (fun t => gq69 t.1 t.2.1) gq69.out gq69.ps
def gq69.E : Env := ⟨tt, lkF [(84, gq84.fi)], 9, 0, [], []⟩
theorem gq69.hok (f : ((ByteArray × Unit) → Option (Bool × Unit))) (hE : EOk Try.prog (gq69.E)) : HintOk Try.prog { (gq69.E) with gv := [fnE [.one (.str)] [.one (.bool)] f] } (bodyOf Try.f69) (.a) := HintOk.n1 (Q := True) (by kernel_rfl) trivial
theorem gq69.hE : EOk Try.prog (gq69.E) := EOk.of ttOk (⟨gq84.fok, trivial⟩)
theorem gq69.fok : FOk Try.prog 69 gq69.fi :=
 fokS (E := gq69.E) (wy := ⟨[[none]], [[], []], []⟩) (h := (fun gs => let f := fnP [.one (.str)] [.one (.bool)] (gN 0 gs); .a)) (G := fun t g => gq69.F (fun y0 => g y0) t.1 t.2.1) (by kernel_rfl) gq69.hE Try.func69 (by kernel_rfl) rfl (Nat.le_refl _) (fun t => HintOk.n1 (by kernel_rfl) (gq69.hok t.2.1 gq69.hE)) (fun t g => gq69.F_nat g (fun y0 => some y0) _ _) (fun t => by kernel_rfl)
def gq70.F {R : Type} (kk : Bool → Option R) (t_ : ByteArray) : Option R :=
 kk ((ByteArray.size t_ : Int) != (32 : Int))
theorem gq70.F_nat {R S : Type} (g : R → Option S) (kk : Bool → Option R) (t_) : gq70.F (fun y0 => (kk y0).bind g) t_ = (gq70.F kk t_).bind g := by
 simp only [gq70.F, grd_bind, cnd_bind, bnd_bind, non_bind]
def gq70 (t_ : ByteArray) : Option Bool := gq70.F (fun y0 => some y0) t_
def gq70.out : Bool → CRes := fun a => ⟨encL SV.enc [.one (.bool)] (a, ()), [encL SC.enc [] ()]⟩
def gq70.ps : List PS := [.val [none]]
def gq70.sA : List SA := [.v (.one (.str))]
def gq70.fi : FI := FIs gq70.sA (Bool) (fun t => gq70 t.1) gq70.out gq70.ps
def gq70.E : Env := ⟨tt, lkF [], 6, 0, [], []⟩
theorem gq70.hok (hE : EOk Try.prog (gq70.E)) : HintOk Try.prog gq70.E (bodyOf Try.f70) (.a) := HintOk.n1 (Q := True) (by kernel_rfl) trivial
theorem gq70.hE : EOk Try.prog (gq70.E) := EOk.of ttOk (trivial)
theorem gq70.fok : FOk Try.prog 70 gq70.fi :=
 fokS (E := gq70.E) (wy := ⟨[[none]], [[]], []⟩) (h := (fun gs => .a)) (G := fun t g => gq70.F (fun y0 => g y0) t.1) (by kernel_rfl) gq70.hE Try.func70 (by kernel_rfl) rfl (Nat.le_refl _) (fun t => HintOk.n1 (by kernel_rfl) (gq70.hok gq70.hE)) (fun t g => gq70.F_nat g (fun y0 => some y0) _) (fun t => by kernel_rfl)
def gq49.F {R : Type} (kk : Bool → Option R) (texts : List ByteArray) : Option R :=
 (gq69 texts (fun t => (gq70 t.1).bind fun a => some (a, ()))).bind fun r =>
 kk (!r)
theorem gq49.F_nat {R S : Type} (g : R → Option S) (kk : Bool → Option R) (texts) : gq49.F (fun y0 => (kk y0).bind g) texts = (gq49.F kk texts).bind g := by
 simp only [gq49.F, grd_bind, cnd_bind, bnd_bind, non_bind]
def gq49 (texts : List ByteArray) : Option Bool := gq49.F (fun y0 => some y0) texts
def gq49.out : Bool → CRes := fun a => ⟨encL SV.enc [.one (.bool)] (a, ()), [encL SC.enc [] ()]⟩
def gq49.ps : List PS := [.val [some (.str, false)]]
def gq49.sA : List SA := [.v (.one (.slv [] .str))]
def gq49.fi : FI := FIs gq49.sA (Bool) (fun t => gq49 t.1) gq49.out gq49.ps
def gq49.E : Env := ⟨tt, lkF [(69, gq69.fi), (70, gq70.fi)], 6, 0, [], []⟩
theorem gq49.hok (hE : EOk Try.prog (gq49.E)) : HintOk Try.prog gq49.E (bodyOf Try.f49) (.a) := HintOk.n1 (Q := True) (by kernel_rfl) trivial
theorem gq49.hE : EOk Try.prog (gq49.E) := EOk.of ttOk (⟨gq69.fok, ⟨gq70.fok, trivial⟩⟩)
theorem gq49.fok : FOk Try.prog 49 gq49.fi :=
 fokS (E := gq49.E) (wy := ⟨[[none]], [[]], []⟩) (h := (fun gs => .a)) (G := fun t g => gq49.F (fun y0 => g y0) t.1) (by kernel_rfl) gq49.hE Try.func49 (by kernel_rfl) rfl (Nat.le_refl _) (fun t => HintOk.n1 (by kernel_rfl) (gq49.hok gq49.hE)) (fun t g => gq49.F_nat g (fun y0 => some y0) _) (fun t => by kernel_rfl)
def gq75.F {R : Type} (kk : Bool → Option R) (b_Key : ByteArray) (b_Value : ByteArray) (b_At : Int) (b_Kids : List (El kk8eb)) : Option R :=
 cond (sEq b_Key ByteArray.empty) (
  cond (sEq b_Value ByteArray.empty) (cond (b_At == (0 : Int)) (kk ((List.length b_Kids : Int) == (0 : Int))) (kk false)) (kk false)) (kk false)
theorem gq75.F_nat {R S : Type} (g : R → Option S) (kk : Bool → Option R) (b_Key b_Value b_At b_Kids) : gq75.F (fun y0 => (kk y0).bind g) b_Key b_Value b_At b_Kids = (gq75.F kk b_Key b_Value b_At b_Kids).bind g := by
 simp only [gq75.F, grd_bind, cnd_bind, bnd_bind, non_bind]
def gq75 (b_Key : ByteArray) (b_Value : ByteArray) (b_At : Int) (b_Kids : List (El kk8eb)) : Option Bool := gq75.F (fun y0 => some y0) b_Key b_Value b_At b_Kids
def gq75.out : Bool → CRes := fun a => ⟨encL SV.enc [.one (.bool)] (a, ()), [encL SC.enc [] ()]⟩
def gq75.ps : List PS := [.val [none, none, none, some (kk8eb, false)]]
def gq75.sA : List SA := [.v (.agg [.str, .str, .int .i64, .slv [] kk8eb])]
def gq75.fi : FI := FIs gq75.sA (Bool) (fun t => gq75 t.1.1 t.1.2.1 t.1.2.2.1 t.1.2.2.2.1) gq75.out gq75.ps
def gq75.E : Env := ⟨tt, lkF [], 22, 0, [], []⟩
theorem gq75.hok (hE : EOk Try.prog (gq75.E)) : HintOk Try.prog gq75.E (bodyOf Try.f75) (.a) := HintOk.n1 (Q := True) (by kernel_rfl) trivial
theorem gq75.hE : EOk Try.prog (gq75.E) := EOk.of ttOk (trivial)
theorem gq75.fok : FOk Try.prog 75 gq75.fi :=
 fokS (E := gq75.E) (wy := ⟨[[none]], [[]], []⟩) (h := (fun gs => .a)) (G := fun t g => gq75.F (fun y0 => g y0) t.1.1 t.1.2.1 t.1.2.2.1 t.1.2.2.2.1) (by kernel_rfl) gq75.hE Try.func75 (by kernel_rfl) rfl (Nat.le_refl _) (fun t => HintOk.n1 (by kernel_rfl) (gq75.hok gq75.hE)) (fun t g => gq75.F_nat g (fun y0 => some y0) _ _ _ _) (fun t => by kernel_rfl)
theorem rep_ex : ∃ f : (ByteArray → Nat → ByteArray) × (ByteArray → Int → Bool), f.1 = (fun s c => ⟨(Lib.repeatL s.data.toList c).toArray⟩) ∧ f.2 = (fun s n => decide (0 ≤ n ∧ n ≤ 9223372036854775807 ∧ s.size * n.toNat ≤ 140737488355328)) := ⟨(_, _), rfl, rfl⟩
noncomputable def repS : ByteArray → Nat → ByteArray := (Classical.choose rep_ex).1
noncomputable def gRep : ByteArray → Int → Bool := (Classical.choose rep_ex).2
theorem repS_eq (s : ByteArray) (c : Nat) : repS s c = ⟨(Lib.repeatL s.data.toList c).toArray⟩ := congrFun (congrFun (Classical.choose_spec rep_ex).1 s) c
theorem gRep_eq (s : ByteArray) (n : Int) : gRep s n = decide (0 ≤ n ∧ n ≤ 9223372036854775807 ∧ s.size * n.toNat ≤ 140737488355328) := congrFun (congrFun (Classical.choose_spec rep_ex).2 s) n
noncomputable def gq86.F {R : Type} (kk : ByteArray → Option R) (s : ByteArray) (n : Int) : Option R := grd (gRep s n) <| kk (repS s n.toNat)
theorem gq86_ex : ∃ f : ByteArray → Int → Option ByteArray, f = fun s n => gq86.F (fun y0 => some y0) s n := ⟨_, rfl⟩
noncomputable def gq86 : ByteArray → Int → Option ByteArray := Classical.choose gq86_ex
theorem gq86_eq (s : ByteArray) (n : Int) : gq86 s n = gq86.F (fun y0 => some y0) s n := congrFun (congrFun (Classical.choose_spec gq86_ex) s) n
def gq86.out : (ByteArray) → CRes := fun a => ⟨encL SV.enc [.one (.str)] (a, ()), [encL SC.enc [] (), encL SC.enc [] ()]⟩
def gq86.ps : List PS := [.val [none], .val [none]]
def gq86.sA : List SA := [.v (.one (.str)), .v (.one (.int .i64))]
noncomputable def gq86.fi : FI := FIs gq86.sA (ByteArray) (fun t => gq86 t.1 t.2.1) gq86.out gq86.ps
theorem gq86.fok : FOk Try.prog 86 gq86.fi := by
 refine fok_ext ⟨_, _, Try.func86, by kernel_rfl, rfl⟩ (by kernel_rfl) (fun a => [.str a]) (fun a => by kernel_rfl) (fun a => by kernel_rfl) (fun t a h w => ?_)
 obtain ⟨s, n, u⟩ := t
 have h' : grd (gRep s n) (some (repS s n.toNat)) = some a := (gq86_eq s n).symm.trans h
 cases hg : gRep s n with
 | false => rw [hg] at h'; cases h'
 | true =>
  rw [hg] at h'
  obtain rfl := Option.some.inj h'
  rw [gRep_eq] at hg
  obtain ⟨h0, h1, h2⟩ := of_decide_eq_true hg
  rw [repS_eq]
  have := Try.strings_Repeat s n.toNat w (by omega) h2
  rw [Int.toNat_of_nonneg h0] at this
  exact this
def gq87.l1 {R : Type} (kke0 : List Int → Option R) : Nat → Int → Int → List Int → Option R
 | 0, _, _, _ => none
 | n + 1, n_, i, out =>
  cond (decide (i ≥ (0 : Int))) (
   grd (gIx i (List.length out)) <|
   grd (gSh (8 : Int)) <|
   gq87.l1 kke0 n (iShr .i64 n_ (8 : Int)) (IntKind.wrap .i64 (i - (1 : Int))) (setE (.int .u8 : Kd) out (Int.toNat i) (IntKind.wrap .u8 n_))) (kke0 out)
theorem gq87.l1_nat {R S : Type} (g : R → Option S) (kke0 : List Int → Option R) : ∀ n n_ i out, gq87.l1 (fun y0 => (kke0 y0).bind g) n n_ i out = (gq87.l1 kke0 n n_ i out).bind g := by
 intro n
 induction n with
 | zero => intros; rfl
 | succ n ih => intros; simp only [gq87.l1, grd_bind, cnd_bind, bnd_bind, non_bind, ih]
def gq87.F {R : Type} (kk : ByteArray → Option R) (n_ : Int) (many : Int) : Option R :=
 grd (gMk many many 1) <|
 gq87.l1 (fun out => kk (strL out)) fuel n_ (IntKind.wrap .i64 (many - (1 : Int))) (List.replicate (Int.toNat many) (0 : Int))
theorem gq87.F_nat {R S : Type} (g : R → Option S) (kk : ByteArray → Option R) (n_ many) : gq87.F (fun y0 => (kk y0).bind g) n_ many = (gq87.F kk n_ many).bind g := by
 simp only [gq87.F, grd_bind, cnd_bind, bnd_bind, non_bind, ← gq87.l1_nat]
def gq87 (n_ : Int) (many : Int) : Option ByteArray := gq87.F (fun y0 => some y0) n_ many
def gq87.out : ByteArray → CRes := fun a => ⟨encL SV.enc [.one (.str)] (a, ()), [encL SC.enc [] (), encL SC.enc [] ()]⟩
def gq87.ps : List PS := [.val [none], .val [none]]
def gq87.sA : List SA := [.v (.one (.int .i64)), .v (.one (.int .i64))]
def gq87.fi : FI := FIs gq87.sA (ByteArray) (fun t => gq87 t.1 t.2.1) gq87.out gq87.ps
def gq87.E : Env := ⟨tt, lkF [], 24, 0, [], []⟩
def gq87.sh1 : SK := ⟨[.v (.one (.int .i64)), .v (.one (.slo 0)), .v (.one (.int .i64))], [.arr (.int .u8) [] true]⟩
def gq87.sh1e0 : SK := ⟨[.v (.one (.slo 0))], [.arr (.int .u8) [] true]⟩
def gq87.ko1 : Ex → List CastAt × List Nat
 | .nrm => ([], [])
 | .ret => ([], [])
 | .ext i => cond (Nat.beq i 0) ([], [5]) ([], [])
def gq87.G1 (n : Nat) (R : Type) (t : gq87.sh1.T) (K : Ex → Kp → Option R) : Option R := gq87.l1 (fun y0 => K (.ext 0) (SK.enc gq87.sh1e0 (((), ()), (y0, ())))) n t.1.1 t.1.2.2.1 t.2.1
def gq87.S1 : Sum := ⟨([], [0, 5, 6]), sumF gq87.sh1 (gq87.G1 fuel), gq87.ko1⟩
theorem gq87.ok1 (hE : EOk Try.prog (gq87.E)) : SumOk Try.prog gq87.E (cB (cR (cL (cR (cR (bodyOf Try.f87)))))) (gq87.S1) := by
 have hh : HintOk Try.prog gq87.E (cB (cB (cR (cL (cR (cR (bodyOf Try.f87))))))) (.a) := HintOk.n1 (Q := True) (by kernel_rfl) trivial
 have h := loopS (kin := ([], [0, 5, 6])) (kout := gq87.ko1) (sh := gq87.sh1) (F := gq87.G1) (ops_ok (hE.gv _)) (by kernel_rfl) hh (fun _ _ _ => rfl) (fun n R t K => by kernel_rfl) fuel
 exact HintOk.n1 (c := (cB (cR (cL (cR (cR (bodyOf Try.f87))))))) (h := .s (gq87.S1)) (P := Try.prog) (E := gq87.E) (by kernel_rfl) h
theorem gq87.hok (hE : EOk Try.prog (gq87.E)) : HintOk Try.prog gq87.E (bodyOf Try.f87) (.n (.a) (.n (.a) (.n (.n (.a) (.b (.s (gq87.S1)))) (.a)))) := HintOk.n1 (Q := (True) ∧ ((True) ∧ (((True) ∧ (SumOk Try.prog gq87.E (cB (cR (cL (cR (cR (bodyOf Try.f87)))))) (gq87.S1))) ∧ (True)))) (by kernel_rfl) ⟨trivial, ⟨trivial, ⟨⟨trivial, (gq87.ok1 hE)⟩, trivial⟩⟩⟩
theorem gq87.hE : EOk Try.prog (gq87.E) := EOk.of ttOk (trivial)
theorem gq87.fok : FOk Try.prog 87 gq87.fi :=
 fokS (E := gq87.E) (wy := ⟨[[none]], [[], []], []⟩) (h := (fun gs => .n (.a) (.n (.a) (.n (.n (.a) (.b (.s (gq87.S1)))) (.a))))) (G := fun t g => gq87.F (fun y0 => g y0) t.1 t.2.1) (by kernel_rfl) gq87.hE Try.func87 (by kernel_rfl) rfl (Nat.le_refl _) (fun t => HintOk.n1 (by kernel_rfl) (gq87.hok gq87.hE)) (fun t g => gq87.F_nat g (fun y0 => some y0) _ _) (fun t => by kernel_rfl)
def gq88.F {R : Type} (kk : List Int → Option R) : Option R :=
 kk [(1779033703 : Int), (3144134277 : Int), (1013904242 : Int), (2773480762 : Int), (1359893119 : Int), (2600822924 : Int), (528734635 : Int), (1541459225 : Int)]
theorem gq88.F_nat {R S : Type} (g : R → Option S) (kk : List Int → Option R) : gq88.F (fun y0 => (kk y0).bind g) = (gq88.F kk).bind g := by
 simp only [gq88.F, grd_bind, cnd_bind, bnd_bind, non_bind]
theorem gq88_ex : ∃ f : Option (List Int), f = gq88.F (fun y0 => some y0) := ⟨_, rfl⟩
noncomputable def gq88 : Option (List Int) := Classical.choose gq88_ex
theorem gq88_eq : gq88 = gq88.F (fun y0 => some y0) := (Classical.choose_spec gq88_ex)
theorem gq88_nat {S : Type} (g : (List Int) → Option S) : gq88.F (fun y0 => g y0) = (gq88).bind g := by
 rw [gq88_eq]
 exact gq88.F_nat g (fun y0 => some y0)
def gq88.out : (List Int) → CRes := fun a => ⟨encL SV.enc [.vec 8 (.int .u32)] (a, ()), []⟩
def gq88.ps : List PS := []
def gq88.sA : List SA := []
def gq88.fi : FI := FIs gq88.sA (List Int) (fun t => gq88) gq88.out gq88.ps
def gq88.E : Env := ⟨tt, lkF [], 2, 0, [], []⟩
theorem gq88.hok (hE : EOk Try.prog (gq88.E)) : HintOk Try.prog gq88.E (bodyOf Try.f88) (.a) := HintOk.n1 (Q := True) (by kernel_rfl) trivial
theorem gq88.hE : EOk Try.prog (gq88.E) := EOk.of ttOk (trivial)
theorem gq88.fok : FOk Try.prog 88 gq88.fi :=
 fokS (E := gq88.E) (wy := ⟨[[]], [], []⟩) (h := (fun gs => .a)) (G := fun t g => gq88.F (fun y0 => g y0)) (by kernel_rfl) gq88.hE Try.func88 (by kernel_rfl) rfl (Nat.le_refl _) (fun t => HintOk.n1 (by kernel_rfl) (gq88.hok gq88.hE)) (fun t g => gq88_nat g) (fun t => by kernel_rfl)
def gq89.F {R : Type} (kk : List Int → Option R) : Option R :=
 kk [(1116352408 : Int), (1899447441 : Int), (3049323471 : Int), (3921009573 : Int), (961987163 : Int), (1508970993 : Int), (2453635748 : Int), (2870763221 : Int), (3624381080 : Int), (310598401 : Int), (607225278 : Int), (1426881987 : Int), (1925078388 : Int), (2162078206 : Int), (2614888103 : Int), (3248222580 : Int), (3835390401 : Int), (4022224774 : Int), (264347078 : Int), (604807628 : Int), (770255983 : Int), (1249150122 : Int), (1555081692 : Int), (1996064986 : Int), (2554220882 : Int), (2821834349 : Int), (2952996808 : Int), (3210313671 : Int), (3336571891 : Int), (3584528711 : Int), (113926993 : Int), (338241895 : Int), (666307205 : Int), (773529912 : Int), (1294757372 : Int), (1396182291 : Int), (1695183700 : Int), (1986661051 : Int), (2177026350 : Int), (2456956037 : Int), (2730485921 : Int), (2820302411 : Int), (3259730800 : Int), (3345764771 : Int), (3516065817 : Int), (3600352804 : Int), (4094571909 : Int), (275423344 : Int), (430227734 : Int), (506948616 : Int), (659060556 : Int), (883997877 : Int), (958139571 : Int), (1322822218 : Int), (1537002063 : Int), (1747873779 : Int), (1955562222 : Int), (2024104815 : Int), (2227730452 : Int), (2361852424 : Int), (2428436474 : Int), (2756734187 : Int), (3204031479 : Int), (3329325298 : Int)]
theorem gq89.F_nat {R S : Type} (g : R → Option S) (kk : List Int → Option R) : gq89.F (fun y0 => (kk y0).bind g) = (gq89.F kk).bind g := by
 simp only [gq89.F, grd_bind, cnd_bind, bnd_bind, non_bind]
theorem gq89_ex : ∃ f : Option (List Int), f = gq89.F (fun y0 => some y0) := ⟨_, rfl⟩
noncomputable def gq89 : Option (List Int) := Classical.choose gq89_ex
theorem gq89_eq : gq89 = gq89.F (fun y0 => some y0) := (Classical.choose_spec gq89_ex)
theorem gq89_nat {S : Type} (g : (List Int) → Option S) : gq89.F (fun y0 => g y0) = (gq89).bind g := by
 rw [gq89_eq]
 exact gq89.F_nat g (fun y0 => some y0)
def gq89.out : (List Int) → CRes := fun a => ⟨encL SV.enc [.vec 64 (.int .u32)] (a, ()), []⟩
def gq89.ps : List PS := []
def gq89.sA : List SA := []
def gq89.fi : FI := FIs gq89.sA (List Int) (fun t => gq89) gq89.out gq89.ps
def gq89.E : Env := ⟨tt, lkF [], 2, 0, [], []⟩
theorem gq89.hok (hE : EOk Try.prog (gq89.E)) : HintOk Try.prog gq89.E (bodyOf Try.f89) (.a) := HintOk.n1 (Q := True) (by kernel_rfl) trivial
theorem gq89.hE : EOk Try.prog (gq89.E) := EOk.of ttOk (trivial)
theorem gq89.fok : FOk Try.prog 89 gq89.fi :=
 fokS (E := gq89.E) (wy := ⟨[[]], [], []⟩) (h := (fun gs => .a)) (G := fun t g => gq89.F (fun y0 => g y0)) (by kernel_rfl) gq89.hE Try.func89 (by kernel_rfl) rfl (Nat.le_refl _) (fun t => HintOk.n1 (by kernel_rfl) (gq89.hok gq89.hE)) (fun t g => gq89_nat g) (fun t => by kernel_rfl)
def gq115.F {R : Type} (kk : Int → Option R) (x : Int) (k_ : Int) : Option R :=
 grd (gSh (iAnd .u64 (IntKind.wrap .u64 k_) (31 : Int))) <|
 grd (gSh (IntKind.wrap .u64 ((32 : Int) - (iAnd .u64 (IntKind.wrap .u64 k_) (31 : Int))))) <|
 kk (iOr .u32 (iShl .u32 x (iAnd .u64 (IntKind.wrap .u64 k_) (31 : Int))) (iShr .u32 x (IntKind.wrap .u64 ((32 : Int) - (iAnd .u64 (IntKind.wrap .u64 k_) (31 : Int))))))
theorem gq115.F_nat {R S : Type} (g : R → Option S) (kk : Int → Option R) (x k_) : gq115.F (fun y0 => (kk y0).bind g) x k_ = (gq115.F kk x k_).bind g := by
 simp only [gq115.F, grd_bind, cnd_bind, bnd_bind, non_bind]
def gq115 (x : Int) (k_ : Int) : Option Int := gq115.F (fun y0 => some y0) x k_
def gq115.out : Int → CRes := fun a => ⟨encL SV.enc [.one (.int .u32)] (a, ()), [encL SC.enc [] (), encL SC.enc [] ()]⟩
def gq115.ps : List PS := [.val [none], .val [none]]
def gq115.sA : List SA := [.v (.one (.int .u32)), .v (.one (.int .i64))]
def gq115.fi : FI := FIs gq115.sA (Int) (fun t => gq115 t.1 t.2.1) gq115.out gq115.ps
def gq115.E : Env := ⟨tt, lkF [], 17, 0, [], []⟩
theorem gq115.hok (hE : EOk Try.prog (gq115.E)) : HintOk Try.prog gq115.E (bodyOf Try.f115) (.a) := HintOk.n1 (Q := True) (by kernel_rfl) trivial
theorem gq115.hE : EOk Try.prog (gq115.E) := EOk.of ttOk (trivial)
theorem gq115.fok : FOk Try.prog 115 gq115.fi :=
 fokS (E := gq115.E) (wy := ⟨[[none]], [[], []], []⟩) (h := (fun gs => .a)) (G := fun t g => gq115.F (fun y0 => g y0) t.1 t.2.1) (by kernel_rfl) gq115.hE Try.func115 (by kernel_rfl) rfl (Nat.le_refl _) (fun t => HintOk.n1 (by kernel_rfl) (gq115.hok gq115.hE)) (fun t g => gq115.F_nat g (fun y0 => some y0) _ _) (fun t => by kernel_rfl)
def gq107.F {R : Type} (kk : Int → Option R) (x : Int) (by_ : Int) : Option R :=
 (gq115 x (IntKind.wrap .i64 (0 - by_))).bind fun r =>
 kk r
theorem gq107.F_nat {R S : Type} (g : R → Option S) (kk : Int → Option R) (x by_) : gq107.F (fun y0 => (kk y0).bind g) x by_ = (gq107.F kk x by_).bind g := by
 simp only [gq107.F, grd_bind, cnd_bind, bnd_bind, non_bind]
def gq107 (x : Int) (by_ : Int) : Option Int := gq107.F (fun y0 => some y0) x by_
def gq107.out : Int → CRes := fun a => ⟨encL SV.enc [.one (.int .u32)] (a, ()), [encL SC.enc [] (), encL SC.enc [] ()]⟩
def gq107.ps : List PS := [.val [none], .val [none]]
def gq107.sA : List SA := [.v (.one (.int .u32)), .v (.one (.int .i64))]
def gq107.fi : FI := FIs gq107.sA (Int) (fun t => gq107 t.1 t.2.1) gq107.out gq107.ps
def gq107.E : Env := ⟨tt, lkF [(115, gq115.fi)], 9, 0, [], []⟩
theorem gq107.hok (hE : EOk Try.prog (gq107.E)) : HintOk Try.prog gq107.E (bodyOf Try.f107) (.a) := HintOk.n1 (Q := True) (by kernel_rfl) trivial
theorem gq107.hE : EOk Try.prog (gq107.E) := EOk.of ttOk (⟨gq115.fok, trivial⟩)
theorem gq107.fok : FOk Try.prog 107 gq107.fi :=
 fokS (E := gq107.E) (wy := ⟨[[none]], [[], []], []⟩) (h := (fun gs => .a)) (G := fun t g => gq107.F (fun y0 => g y0) t.1 t.2.1) (by kernel_rfl) gq107.hE Try.func107 (by kernel_rfl) rfl (Nat.le_refl _) (fun t => HintOk.n1 (by kernel_rfl) (gq107.hok gq107.hE)) (fun t g => gq107.F_nat g (fun y0 => some y0) _ _) (fun t => by kernel_rfl)
def gq106.l1 {R : Type} (kke0 : List Int → List Int → Option R) : Nat → ByteArray → Int → List Int → List Int → Option R
 | 0, _, _, _, _ => none
 | n + 1, block, i, l, w =>
  cond (decide (i < (64 : Int))) (
   cond (decide (i < (16 : Int))) (
    grd (gIx (IntKind.wrap .i64 ((4 : Int) * i)) (ByteArray.size block)) <|
    grd (gSh (24 : Int)) <|
    grd (gIx (IntKind.wrap .i64 ((IntKind.wrap .i64 ((4 : Int) * i)) + (1 : Int))) (ByteArray.size block)) <|
    grd (gSh (16 : Int)) <|
    grd (gIx (IntKind.wrap .i64 ((IntKind.wrap .i64 ((4 : Int) * i)) + (2 : Int))) (ByteArray.size block)) <|
    grd (gSh (8 : Int)) <|
    grd (gIx (IntKind.wrap .i64 ((IntKind.wrap .i64 ((4 : Int) * i)) + (3 : Int))) (ByteArray.size block)) <|
    grd (gIx i 64) <|
    gq106.l1 kke0 n block (IntKind.wrap .i64 (i + (1 : Int))) l (setE (.int .u32 : Kd) w (Int.toNat i) (iOr .u32 (iOr .u32 (iOr .u32 (iShl .u32 (IntKind.wrap .u32 (byteAt block (IntKind.wrap .i64 ((4 : Int) * i)))) (24 : Int)) (iShl .u32 (IntKind.wrap .u32 (byteAt block (IntKind.wrap .i64 ((IntKind.wrap .i64 ((4 : Int) * i)) + (1 : Int))))) (16 : Int))) (iShl .u32 (IntKind.wrap .u32 (byteAt block (IntKind.wrap .i64 ((IntKind.wrap .i64 ((4 : Int) * i)) + (2 : Int))))) (8 : Int))) (IntKind.wrap .u32 (byteAt block (IntKind.wrap .i64 ((IntKind.wrap .i64 ((4 : Int) * i)) + (3 : Int)))))))) (
    grd (gIx (IntKind.wrap .i64 (i - (15 : Int))) 64) <|
    grd (gIx (IntKind.wrap .i64 (i - (2 : Int))) 64) <|
    (gq107 (rdE (.int .u32 : Kd) w (Int.toNat (IntKind.wrap .i64 (i - (15 : Int))))) (7 : Int)).bind fun r =>
    (gq107 (rdE (.int .u32 : Kd) w (Int.toNat (IntKind.wrap .i64 (i - (15 : Int))))) (18 : Int)).bind fun r1 =>
    grd (gSh (3 : Int)) <|
    (gq107 (rdE (.int .u32 : Kd) w (Int.toNat (IntKind.wrap .i64 (i - (2 : Int))))) (17 : Int)).bind fun r2 =>
    (gq107 (rdE (.int .u32 : Kd) w (Int.toNat (IntKind.wrap .i64 (i - (2 : Int))))) (19 : Int)).bind fun r3 =>
    grd (gSh (10 : Int)) <|
    grd (gIx (IntKind.wrap .i64 (i - (16 : Int))) 64) <|
    grd (gIx (IntKind.wrap .i64 (i - (7 : Int))) 64) <|
    grd (gIx i 64) <|
    gq106.l1 kke0 n block (IntKind.wrap .i64 (i + (1 : Int))) l (setE (.int .u32 : Kd) w (Int.toNat i) (IntKind.wrap .u32 ((IntKind.wrap .u32 ((IntKind.wrap .u32 ((rdE (.int .u32 : Kd) w (Int.toNat (IntKind.wrap .i64 (i - (16 : Int))))) + (iXor .u32 (iXor .u32 r r1) (iShr .u32 (rdE (.int .u32 : Kd) w (Int.toNat (IntKind.wrap .i64 (i - (15 : Int))))) (3 : Int))))) + (rdE (.int .u32 : Kd) w (Int.toNat (IntKind.wrap .i64 (i - (7 : Int))))))) + (iXor .u32 (iXor .u32 r2 r3) (iShr .u32 (rdE (.int .u32 : Kd) w (Int.toNat (IntKind.wrap .i64 (i - (2 : Int))))) (10 : Int)))))))) (kke0 l w)
theorem gq106.l1_nat {R S : Type} (g : R → Option S) (kke0 : List Int → List Int → Option R) : ∀ n block i l w, gq106.l1 (fun y0 y1 => (kke0 y0 y1).bind g) n block i l w = (gq106.l1 kke0 n block i l w).bind g := by
 intro n
 induction n with
 | zero => intros; rfl
 | succ n ih => intros; simp only [gq106.l1, grd_bind, cnd_bind, bnd_bind, non_bind, ih]
def gq106.F {R : Type} (kk : List Int → Option R) (block : ByteArray) : Option R :=
 gq106.l1 (fun l w => kk w) fuel block (0 : Int) (List.replicate 64 (0 : Int)) [(0 : Int), (0 : Int), (0 : Int), (0 : Int), (0 : Int), (0 : Int), (0 : Int), (0 : Int), (0 : Int), (0 : Int), (0 : Int), (0 : Int), (0 : Int), (0 : Int), (0 : Int), (0 : Int), (0 : Int), (0 : Int), (0 : Int), (0 : Int), (0 : Int), (0 : Int), (0 : Int), (0 : Int), (0 : Int), (0 : Int), (0 : Int), (0 : Int), (0 : Int), (0 : Int), (0 : Int), (0 : Int), (0 : Int), (0 : Int), (0 : Int), (0 : Int), (0 : Int), (0 : Int), (0 : Int), (0 : Int), (0 : Int), (0 : Int), (0 : Int), (0 : Int), (0 : Int), (0 : Int), (0 : Int), (0 : Int), (0 : Int), (0 : Int), (0 : Int), (0 : Int), (0 : Int), (0 : Int), (0 : Int), (0 : Int), (0 : Int), (0 : Int), (0 : Int), (0 : Int), (0 : Int), (0 : Int), (0 : Int), (0 : Int)]
theorem gq106.F_nat {R S : Type} (g : R → Option S) (kk : List Int → Option R) (block) : gq106.F (fun y0 => (kk y0).bind g) block = (gq106.F kk block).bind g := by
 simp only [gq106.F, grd_bind, cnd_bind, bnd_bind, non_bind, ← gq106.l1_nat]
def gq106 (block : ByteArray) : Option (List Int) := gq106.F (fun y0 => some y0) block
def gq106.out : (List Int) → CRes := fun a => ⟨encL SV.enc [.vec 64 (.int .u32)] (a, ()), [encL SC.enc [] ()]⟩
def gq106.ps : List PS := [.val [none]]
def gq106.sA : List SA := [.v (.one (.str))]
def gq106.fi : FI := FIs gq106.sA (List Int) (fun t => gq106 t.1) gq106.out gq106.ps
def gq106.E : Env := ⟨tt, lkF [(107, gq107.fi)], 87, 0, [], []⟩
def gq106.sh1 : SK := ⟨[.v (.one (.str)), .v (.one (.aptr 0)), .v (.one (.aptr 1)), .v (.one (.int .i64))], [.vec 64 (.int .u32), .vec 64 (.int .u32)]⟩
def gq106.sh1e0 : SK := ⟨[.v (.one (.aptr 0)), .v (.one (.aptr 1))], [.vec 64 (.int .u32), .vec 64 (.int .u32)]⟩
def gq106.ko1 : Ex → List CastAt × List Nat
 | .nrm => ([], [])
 | .ret => ([], [])
 | .ext i => cond (Nat.beq i 0) ([], [2, 3]) ([], [])
def gq106.G1 (n : Nat) (R : Type) (t : gq106.sh1.T) (K : Ex → Kp → Option R) : Option R := gq106.l1 (fun y0 y1 => K (.ext 0) (SK.enc gq106.sh1e0 (((), (), ()), (y0, y1, ())))) n t.1.1 t.1.2.2.2.1 t.2.1 t.2.2.1
def gq106.S1 : Sum := ⟨([], [0, 2, 3, 10]), sumF gq106.sh1 (gq106.G1 fuel), gq106.ko1⟩
theorem gq106.ok1 (hE : EOk Try.prog (gq106.E)) : SumOk Try.prog gq106.E (cB (cR (cL (cR (cR (bodyOf Try.f106)))))) (gq106.S1) := by
 have hh : HintOk Try.prog gq106.E (cB (cB (cR (cL (cR (cR (bodyOf Try.f106))))))) (.a) := HintOk.n1 (Q := True) (by kernel_rfl) trivial
 have h := loopS (kin := ([], [0, 2, 3, 10])) (kout := gq106.ko1) (sh := gq106.sh1) (F := gq106.G1) (ops_ok (hE.gv _)) (by kernel_rfl) hh (fun _ _ _ => rfl) (fun n R t K => by kernel_rfl) fuel
 exact HintOk.n1 (c := (cB (cR (cL (cR (cR (bodyOf Try.f106))))))) (h := .s (gq106.S1)) (P := Try.prog) (E := gq106.E) (by kernel_rfl) h
theorem gq106.hok (hE : EOk Try.prog (gq106.E)) : HintOk Try.prog gq106.E (bodyOf Try.f106) (.n (.a) (.n (.a) (.n (.n (.a) (.b (.s (gq106.S1)))) (.a)))) := HintOk.n1 (Q := (True) ∧ ((True) ∧ (((True) ∧ (SumOk Try.prog gq106.E (cB (cR (cL (cR (cR (bodyOf Try.f106)))))) (gq106.S1))) ∧ (True)))) (by kernel_rfl) ⟨trivial, ⟨trivial, ⟨⟨trivial, (gq106.ok1 hE)⟩, trivial⟩⟩⟩
theorem gq106.hE : EOk Try.prog (gq106.E) := EOk.of ttOk (⟨gq107.fok, trivial⟩)
theorem gq106.fok : FOk Try.prog 106 gq106.fi :=
 fokS (E := gq106.E) (wy := ⟨[[]], [[]], []⟩) (h := (fun gs => .n (.a) (.n (.a) (.n (.n (.a) (.b (.s (gq106.S1)))) (.a))))) (G := fun t g => gq106.F (fun y0 => g y0) t.1) (by kernel_rfl) gq106.hE Try.func106 (by kernel_rfl) rfl (Nat.le_refl _) (fun t => HintOk.n1 (by kernel_rfl) (gq106.hok gq106.hE)) (fun t g => gq106.F_nat g (fun y0 => some y0) _) (fun t => by kernel_rfl)
def gq90.l1 {R : Type} (kke0 : List Int → List Int → List Int → Option R) : Nat → Int → List Int → List Int → List Int → List Int → List Int → Option R
 | 0, _, _, _, _, _, _ => none
 | n + 1, i, words, k_, l, v, w =>
  cond (decide (i < (64 : Int))) (
   grd (gIx (0 : Int) 8) <|
   grd (gIx (1 : Int) 8) <|
   grd (gIx (2 : Int) 8) <|
   grd (gIx (4 : Int) 8) <|
   grd (gIx (5 : Int) 8) <|
   grd (gIx (6 : Int) 8) <|
   grd (gIx (7 : Int) 8) <|
   (gq107 (rdE (.int .u32 : Kd) v (Int.toNat (4 : Int))) (6 : Int)).bind fun r =>
   (gq107 (rdE (.int .u32 : Kd) v (Int.toNat (4 : Int))) (11 : Int)).bind fun r1 =>
   (gq107 (rdE (.int .u32 : Kd) v (Int.toNat (4 : Int))) (25 : Int)).bind fun r2 =>
   grd (gIx i 64) <|
   grd (gIx i 64) <|
   (gq107 (rdE (.int .u32 : Kd) v (Int.toNat (0 : Int))) (2 : Int)).bind fun r3 =>
   (gq107 (rdE (.int .u32 : Kd) v (Int.toNat (0 : Int))) (13 : Int)).bind fun r4 =>
   (gq107 (rdE (.int .u32 : Kd) v (Int.toNat (0 : Int))) (22 : Int)).bind fun r5 =>
   grd (gIx (3 : Int) 8) <|
   gq90.l1 kke0 n (IntKind.wrap .i64 (i + (1 : Int))) words k_ l [IntKind.wrap .u32 ((IntKind.wrap .u32 ((IntKind.wrap .u32 ((IntKind.wrap .u32 ((IntKind.wrap .u32 ((rdE (.int .u32 : Kd) v (Int.toNat (7 : Int))) + (iXor .u32 (iXor .u32 r r1) r2))) + (iOr .u32 (iAnd .u32 (rdE (.int .u32 : Kd) v (Int.toNat (4 : Int))) (rdE (.int .u32 : Kd) v (Int.toNat (5 : Int)))) (iAnd .u32 (iXor .u32 (IntKind.max .u32) (rdE (.int .u32 : Kd) v (Int.toNat (4 : Int)))) (rdE (.int .u32 : Kd) v (Int.toNat (6 : Int))))))) + (rdE (.int .u32 : Kd) k_ (Int.toNat i)))) + (rdE (.int .u32 : Kd) w (Int.toNat i)))) + (IntKind.wrap .u32 ((iXor .u32 (iXor .u32 r3 r4) r5) + (iOr .u32 (iOr .u32 (iAnd .u32 (rdE (.int .u32 : Kd) v (Int.toNat (0 : Int))) (rdE (.int .u32 : Kd) v (Int.toNat (1 : Int)))) (iAnd .u32 (rdE (.int .u32 : Kd) v (Int.toNat (0 : Int))) (rdE (.int .u32 : Kd) v (Int.toNat (2 : Int))))) (iAnd .u32 (rdE (.int .u32 : Kd) v (Int.toNat (1 : Int))) (rdE (.int .u32 : Kd) v (Int.toNat (2 : Int)))))))), rdE (.int .u32 : Kd) v (Int.toNat (0 : Int)), rdE (.int .u32 : Kd) v (Int.toNat (1 : Int)), rdE (.int .u32 : Kd) v (Int.toNat (2 : Int)), IntKind.wrap .u32 ((rdE (.int .u32 : Kd) v (Int.toNat (3 : Int))) + (IntKind.wrap .u32 ((IntKind.wrap .u32 ((IntKind.wrap .u32 ((IntKind.wrap .u32 ((rdE (.int .u32 : Kd) v (Int.toNat (7 : Int))) + (iXor .u32 (iXor .u32 r r1) r2))) + (iOr .u32 (iAnd .u32 (rdE (.int .u32 : Kd) v (Int.toNat (4 : Int))) (rdE (.int .u32 : Kd) v (Int.toNat (5 : Int)))) (iAnd .u32 (iXor .u32 (IntKind.max .u32) (rdE (.int .u32 : Kd) v (Int.toNat (4 : Int)))) (rdE (.int .u32 : Kd) v (Int.toNat (6 : Int))))))) + (rdE (.int .u32 : Kd) k_ (Int.toNat i)))) + (rdE (.int .u32 : Kd) w (Int.toNat i))))), rdE (.int .u32 : Kd) v (Int.toNat (4 : Int)), rdE (.int .u32 : Kd) v (Int.toNat (5 : Int)), rdE (.int .u32 : Kd) v (Int.toNat (6 : Int))] w) (kke0 words l v)
theorem gq90.l1_nat {R S : Type} (g : R → Option S) (kke0 : List Int → List Int → List Int → Option R) : ∀ n i words k_ l v w, gq90.l1 (fun y0 y1 y2 => (kke0 y0 y1 y2).bind g) n i words k_ l v w = (gq90.l1 kke0 n i words k_ l v w).bind g := by
 intro n
 induction n with
 | zero => intros; rfl
 | succ n ih => intros; simp only [gq90.l1, grd_bind, cnd_bind, bnd_bind, non_bind, ih]
def gq90.l2 {R : Type} (kke2 : List Int → List Int → Option R) : Nat → Int → List Int → List Int → List Int → Option R
 | 0, _, _, _, _ => none
 | n + 1, i, words, l, v =>
  cond (decide (i < (8 : Int))) (
   grd (gIx i 8) <|
   grd (gIx i 8) <|
   grd (gIx i 8) <|
   gq90.l2 kke2 n (IntKind.wrap .i64 (i + (1 : Int))) words l (setE (.int .u32 : Kd) v (Int.toNat i) (IntKind.wrap .u32 ((rdE (.int .u32 : Kd) v (Int.toNat i)) + (rdE (.int .u32 : Kd) words (Int.toNat i)))))) (kke2 l v)
theorem gq90.l2_nat {R S : Type} (g : R → Option S) (kke2 : List Int → List Int → Option R) : ∀ n i words l v, gq90.l2 (fun y0 y1 => (kke2 y0 y1).bind g) n i words l v = (gq90.l2 kke2 n i words l v).bind g := by
 intro n
 induction n with
 | zero => intros; rfl
 | succ n ih => intros; simp only [gq90.l2, grd_bind, cnd_bind, bnd_bind, non_bind, ih]
def gq90.F {R : Type} (kk : List Int → Option R) (words : List Int) (k_ : List Int) (block : ByteArray) : Option R :=
 (gq106 block).bind fun r =>
 gq90.l1 (fun words1 l v => gq90.l2 (fun l1 v1 => kk v1) fuel (0 : Int) words1 l v) fuel (0 : Int) words k_ (List.replicate 8 (0 : Int)) words r
theorem gq90.F_nat {R S : Type} (g : R → Option S) (kk : List Int → Option R) (words k_ block) : gq90.F (fun y0 => (kk y0).bind g) words k_ block = (gq90.F kk words k_ block).bind g := by
 simp only [gq90.F, grd_bind, cnd_bind, bnd_bind, non_bind, ← gq90.l1_nat, ← gq90.l2_nat]
theorem gq90_ex : ∃ f : List Int → List Int → ByteArray → Option (List Int), f = fun (words : List Int) (k_ : List Int) (block : ByteArray) => gq90.F (fun y0 => some y0) words k_ block := ⟨_, rfl⟩
noncomputable def gq90 : List Int → List Int → ByteArray → Option (List Int) := Classical.choose gq90_ex
theorem gq90_eq (words : List Int) (k_ : List Int) (block : ByteArray) : gq90 words k_ block = gq90.F (fun y0 => some y0) words k_ block := (congrFun (congrFun (congrFun (Classical.choose_spec gq90_ex) words) k_) block)
theorem gq90_nat {S : Type} (g : (List Int) → Option S) (words : List Int) (k_ : List Int) (block : ByteArray) : gq90.F (fun y0 => g y0) words k_ block = (gq90 words k_ block).bind g := by
 rw [gq90_eq]
 exact gq90.F_nat g (fun y0 => some y0) words k_ block
def gq90.out : (List Int) → CRes := fun a => ⟨encL SV.enc [.vec 8 (.int .u32)] (a, ()), [encL SC.enc [] (), encL SC.enc [] (), encL SC.enc [] ()]⟩
def gq90.ps : List PS := [.vec, .vec, .val [none]]
def gq90.sA : List SA := [.v (.vec 8 (.int .u32)), .v (.vec 64 (.int .u32)), .v (.one (.str))]
def gq90.fi : FI := FIs gq90.sA (List Int) (fun t => gq90 t.1 t.2.1 t.2.2.1) gq90.out gq90.ps
def gq90.E : Env := ⟨tt, lkF [(106, gq106.fi), (107, gq107.fi)], 113, 0, [], []⟩
def gq90.sh1 : SK := ⟨[.v (.one (.aptr 0)), .v (.one (.aptr 1)), .v (.one (.aptr 2)), .v (.one (.aptr 3)), .v (.one (.aptr 4)), .v (.one (.int .i64))], [.vec 8 (.int .u32), .vec 64 (.int .u32), .vec 8 (.int .u32), .vec 8 (.int .u32), .vec 64 (.int .u32)]⟩
def gq90.sh1e0 : SK := ⟨[.v (.one (.aptr 0)), .v (.one (.aptr 1)), .v (.one (.aptr 2))], [.vec 8 (.int .u32), .vec 8 (.int .u32), .vec 8 (.int .u32)]⟩
def gq90.ko1 : Ex → List CastAt × List Nat
 | .nrm => ([], [])
 | .ret => ([], [])
 | .ext i => cond (Nat.beq i 0) ([], [3, 6, 7]) ([], [])
def gq90.G1 (n : Nat) (R : Type) (t : gq90.sh1.T) (K : Ex → Kp → Option R) : Option R := gq90.l1 (fun y0 y1 y2 => K (.ext 0) (SK.enc gq90.sh1e0 (((), (), (), ()), (y0, y1, y2, ())))) n t.1.2.2.2.2.2.1 t.2.1 t.2.2.1 t.2.2.2.1 t.2.2.2.2.1 t.2.2.2.2.2.1
def gq90.S1 : Sum := ⟨([], [3, 4, 6, 7, 8, 22]), sumF gq90.sh1 (gq90.G1 fuel), gq90.ko1⟩
theorem gq90.ok1 (hE : EOk Try.prog (gq90.E)) : SumOk Try.prog gq90.E (cB (cR (cL (cR (cR (bodyOf Try.f90)))))) (gq90.S1) := by
 have hh : HintOk Try.prog gq90.E (cB (cB (cR (cL (cR (cR (bodyOf Try.f90))))))) (.a) := HintOk.n1 (Q := True) (by kernel_rfl) trivial
 have h := loopS (kin := ([], [3, 4, 6, 7, 8, 22])) (kout := gq90.ko1) (sh := gq90.sh1) (F := gq90.G1) (ops_ok (hE.gv _)) (by kernel_rfl) hh (fun _ _ _ => rfl) (fun n R t K => by kernel_rfl) fuel
 exact HintOk.n1 (c := (cB (cR (cL (cR (cR (bodyOf Try.f90))))))) (h := .s (gq90.S1)) (P := Try.prog) (E := gq90.E) (by kernel_rfl) h
def gq90.sh2 : SK := ⟨[.v (.one (.aptr 0)), .v (.one (.aptr 1)), .v (.one (.aptr 2)), .v (.one (.int .i64))], [.vec 8 (.int .u32), .vec 8 (.int .u32), .vec 8 (.int .u32)]⟩
def gq90.sh2e2 : SK := ⟨[.v (.one (.aptr 0)), .v (.one (.aptr 1))], [.vec 8 (.int .u32), .vec 8 (.int .u32)]⟩
def gq90.ko2 : Ex → List CastAt × List Nat
 | .nrm => ([], [])
 | .ret => ([], [])
 | .ext i => cond (Nat.beq i 2) ([], [6, 7]) ([], [])
def gq90.G2 (n : Nat) (R : Type) (t : gq90.sh2.T) (K : Ex → Kp → Option R) : Option R := gq90.l2 (fun y0 y1 => K (.ext 2) (SK.enc gq90.sh2e2 (((), (), ()), (y0, y1, ())))) n t.1.2.2.2.1 t.2.1 t.2.2.1 t.2.2.2.1
def gq90.S2 : Sum := ⟨([], [3, 6, 7, 100]), sumF gq90.sh2 (gq90.G2 fuel), gq90.ko2⟩
theorem gq90.ok2 (hE : EOk Try.prog (gq90.E)) : SumOk Try.prog gq90.E (cB (cR (cL (cR (cR (cR (bodyOf Try.f90))))))) (gq90.S2) := by
 have hh : HintOk Try.prog gq90.E (cB (cB (cR (cL (cR (cR (cR (bodyOf Try.f90)))))))) (.a) := HintOk.n1 (Q := True) (by kernel_rfl) trivial
 have h := loopS (kin := ([], [3, 6, 7, 100])) (kout := gq90.ko2) (sh := gq90.sh2) (F := gq90.G2) (ops_ok (hE.gv _)) (by kernel_rfl) hh (fun _ _ _ => rfl) (fun n R t K => by kernel_rfl) fuel
 exact HintOk.n1 (c := (cB (cR (cL (cR (cR (cR (bodyOf Try.f90)))))))) (h := .s (gq90.S2)) (P := Try.prog) (E := gq90.E) (by kernel_rfl) h
theorem gq90.hok (hE : EOk Try.prog (gq90.E)) : HintOk Try.prog gq90.E (bodyOf Try.f90) (.n (.a) (.n (.a) (.n (.n (.a) (.b (.s (gq90.S1)))) (.n (.n (.a) (.b (.s (gq90.S2)))) (.a))))) := HintOk.n1 (Q := (True) ∧ ((True) ∧ (((True) ∧ (SumOk Try.prog gq90.E (cB (cR (cL (cR (cR (bodyOf Try.f90)))))) (gq90.S1))) ∧ (((True) ∧ (SumOk Try.prog gq90.E (cB (cR (cL (cR (cR (cR (bodyOf Try.f90))))))) (gq90.S2))) ∧ (True))))) (by kernel_rfl) ⟨trivial, ⟨trivial, ⟨⟨trivial, (gq90.ok1 hE)⟩, ⟨⟨trivial, (gq90.ok2 hE)⟩, trivial⟩⟩⟩⟩
theorem gq90.hE : EOk Try.prog (gq90.E) := EOk.of ttOk (⟨gq106.fok, ⟨gq107.fok, trivial⟩⟩)
theorem gq90.fok : FOk Try.prog 90 gq90.fi :=
 fokS (E := gq90.E) (wy := ⟨[[]], [[], [], []], []⟩) (h := (fun gs => .n (.a) (.n (.a) (.n (.n (.a) (.b (.s (gq90.S1)))) (.n (.n (.a) (.b (.s (gq90.S2)))) (.a)))))) (G := fun t g => gq90.F (fun y0 => g y0) t.1 t.2.1 t.2.2.1) (by kernel_rfl) gq90.hE Try.func90 (by kernel_rfl) rfl (Nat.le_refl _) (fun t => HintOk.n1 (by kernel_rfl) (gq90.hok gq90.hE)) (fun t g => gq90_nat g t.1 t.2.1 t.2.2.1) (fun t => by kernel_rfl)
def i_hash.l1 {R : Type} (kke0 : List Int → Option R) : Nat → ByteArray → Int → List Int → List Int → Option R
 | 0, _, _, _, _ => none
 | n + 1, all, at_, words, k_ =>
  cond (decide (at_ < (ByteArray.size all : Int))) (
   grd (gSl at_ (IntKind.wrap .i64 (at_ + (64 : Int))) (ByteArray.size all)) <|
   (gq90 words k_ (cut all at_ (IntKind.wrap .i64 (at_ + (64 : Int))))).bind fun r =>
   i_hash.l1 kke0 n all (IntKind.wrap .i64 (at_ + (64 : Int))) r k_) (kke0 words)
theorem i_hash.l1_nat {R S : Type} (g : R → Option S) (kke0 : List Int → Option R) : ∀ n all at_ words k_, i_hash.l1 (fun y0 => (kke0 y0).bind g) n all at_ words k_ = (i_hash.l1 kke0 n all at_ words k_).bind g := by
 intro n
 induction n with
 | zero => intros; rfl
 | succ n ih => intros; simp only [i_hash.l1, grd_bind, cnd_bind, bnd_bind, non_bind, ih]
def i_hash.l2 {R : Type} (kke2 : ByteArray → Option R) : Nat → ByteArray → List Int → Int → Option R
 | 0, _, _, _ => none
 | n + 1, out, l, i =>
  cond (decide (i < (8 : Int))) (
   grd (gIx i 8) <|
   (gq87 (IntKind.wrap .i64 (rdE (.int .u32 : Kd) l (Int.toNat i))) (4 : Int)).bind fun r =>
   grd (gCat out r) <|
   i_hash.l2 kke2 n (out ++ r) l (IntKind.wrap .i64 (i + (1 : Int)))) (kke2 out)
theorem i_hash.l2_nat {R S : Type} (g : R → Option S) (kke2 : ByteArray → Option R) : ∀ n out l i, i_hash.l2 (fun y0 => (kke2 y0).bind g) n out l i = (i_hash.l2 kke2 n out l i).bind g := by
 intro n
 induction n with
 | zero => intros; rfl
 | succ n ih => intros; simp only [i_hash.l2, grd_bind, cnd_bind, bnd_bind, non_bind, ih]
def i_hash.F {R : Type} (kk : ByteArray → Option R) (s : ByteArray) : Option R :=
 grd (gCat s (⟨#[128]⟩ : ByteArray)) <|
 grd (gNz (64 : Int)) <|
 grd (gNz (64 : Int)) <|
 (gq86 (⟨#[0]⟩ : ByteArray) (Int.tmod (IntKind.wrap .i64 ((119 : Int) - (Int.tmod (ByteArray.size s : Int) (64 : Int)))) (64 : Int))).bind fun r =>
 grd (gCat (s ++ (⟨#[128]⟩ : ByteArray)) r) <|
 (gq87 (IntKind.wrap .i64 ((8 : Int) * (ByteArray.size s : Int))) (8 : Int)).bind fun r1 =>
 grd (gCat ((s ++ (⟨#[128]⟩ : ByteArray)) ++ r) r1) <|
 (gq88).bind fun r2 =>
 (gq89).bind fun r3 =>
 i_hash.l1 (fun words => i_hash.l2 (fun out => kk out) fuel ByteArray.empty words (0 : Int)) fuel (((s ++ (⟨#[128]⟩ : ByteArray)) ++ r) ++ r1) (0 : Int) r2 r3
theorem i_hash.F_nat {R S : Type} (g : R → Option S) (kk : ByteArray → Option R) (s) : i_hash.F (fun y0 => (kk y0).bind g) s = (i_hash.F kk s).bind g := by
 simp only [i_hash.F, grd_bind, cnd_bind, bnd_bind, non_bind, ← i_hash.l1_nat, ← i_hash.l2_nat]
theorem i_hash_ex : ∃ f : ByteArray → Option ByteArray, f = fun (s : ByteArray) => i_hash.F (fun y0 => some y0) s := ⟨_, rfl⟩
noncomputable def i_hash : ByteArray → Option ByteArray := Classical.choose i_hash_ex
theorem i_hash_eq (s : ByteArray) : i_hash s = i_hash.F (fun y0 => some y0) s := (congrFun (Classical.choose_spec i_hash_ex) s)
theorem i_hash_nat {S : Type} (g : ByteArray → Option S) (s : ByteArray) : i_hash.F (fun y0 => g y0) s = (i_hash s).bind g := by
 rw [i_hash_eq]
 exact i_hash.F_nat g (fun y0 => some y0) s
def i_hash.out : ByteArray → CRes := fun a => ⟨encL SV.enc [.one (.str)] (a, ()), [encL SC.enc [] ()]⟩
def i_hash.ps : List PS := [.val [none]]
def i_hash.sA : List SA := [.v (.one (.str))]
def i_hash.fi : FI := FIs i_hash.sA (ByteArray) (fun t => i_hash t.1) i_hash.out i_hash.ps
def i_hash.E : Env := ⟨tt, lkF [(86, gq86.fi), (87, gq87.fi), (88, gq88.fi), (89, gq89.fi), (90, gq90.fi)], 51, 0, [], []⟩
def i_hash.sh1 : SK := ⟨[.v (.one (.str)), .v (.one (.aptr 0)), .v (.one (.aptr 1)), .v (.one (.int .i64))], [.vec 8 (.int .u32), .vec 64 (.int .u32)]⟩
def i_hash.sh1e0 : SK := ⟨[.v (.one (.aptr 0))], [.vec 8 (.int .u32)]⟩
def i_hash.ko1 : Ex → List CastAt × List Nat
 | .nrm => ([], [])
 | .ret => ([], [])
 | .ext i => cond (Nat.beq i 0) ([], [4]) ([], [])
def i_hash.G1 (n : Nat) (R : Type) (t : i_hash.sh1.T) (K : Ex → Kp → Option R) : Option R := i_hash.l1 (fun y0 => K (.ext 0) (SK.enc i_hash.sh1e0 (((), ()), (y0, ())))) n t.1.1 t.1.2.2.2.1 t.2.1 t.2.2.1
def i_hash.S1 : Sum := ⟨([], [3, 4, 5, 6]), sumF i_hash.sh1 (i_hash.G1 fuel), i_hash.ko1⟩
theorem i_hash.ok1 (hE : EOk Try.prog (i_hash.E)) : SumOk Try.prog i_hash.E (cB (cR (cL (cR (cR (cR (bodyOf Try.f73))))))) (i_hash.S1) := by
 have hh : HintOk Try.prog i_hash.E (cB (cB (cR (cL (cR (cR (cR (bodyOf Try.f73)))))))) (.a) := HintOk.n1 (Q := True) (by kernel_rfl) trivial
 have h := loopS (kin := ([], [3, 4, 5, 6])) (kout := i_hash.ko1) (sh := i_hash.sh1) (F := i_hash.G1) (ops_ok (hE.gv _)) (by kernel_rfl) hh (fun _ _ _ => rfl) (fun n R t K => by kernel_rfl) fuel
 exact HintOk.n1 (c := (cB (cR (cL (cR (cR (cR (bodyOf Try.f73)))))))) (h := .s (i_hash.S1)) (P := Try.prog) (E := i_hash.E) (by kernel_rfl) h
def i_hash.sh2 : SK := ⟨[.v (.one (.str)), .v (.vec 8 (.int .u32)), .v (.one (.int .i64))], []⟩
def i_hash.sh2e2 : SK := ⟨[.v (.one (.str))], []⟩
def i_hash.ko2 : Ex → List CastAt × List Nat
 | .nrm => ([], [])
 | .ret => ([], [])
 | .ext i => cond (Nat.beq i 2) ([], [7]) ([], [])
def i_hash.G2 (n : Nat) (R : Type) (t : i_hash.sh2.T) (K : Ex → Kp → Option R) : Option R := i_hash.l2 (fun y0 => K (.ext 2) (SK.enc i_hash.sh2e2 ((y0, ()), ()))) n t.1.1 t.1.2.1 t.1.2.2.1
def i_hash.S2 : Sum := ⟨([], [7, 40, 41]), sumF i_hash.sh2 (i_hash.G2 fuel), i_hash.ko2⟩
theorem i_hash.ok2 (hE : EOk Try.prog (i_hash.E)) : SumOk Try.prog i_hash.E (cB (cR (cL (cR (cR (cR (cR (cR (bodyOf Try.f73))))))))) (i_hash.S2) := by
 have hh : HintOk Try.prog i_hash.E (cB (cB (cR (cL (cR (cR (cR (cR (cR (bodyOf Try.f73)))))))))) (.a) := HintOk.n1 (Q := True) (by kernel_rfl) trivial
 have h := loopS (kin := ([], [7, 40, 41])) (kout := i_hash.ko2) (sh := i_hash.sh2) (F := i_hash.G2) (ops_ok (hE.gv _)) (by kernel_rfl) hh (fun _ _ _ => rfl) (fun n R t K => by kernel_rfl) fuel
 exact HintOk.n1 (c := (cB (cR (cL (cR (cR (cR (cR (cR (bodyOf Try.f73)))))))))) (h := .s (i_hash.S2)) (P := Try.prog) (E := i_hash.E) (by kernel_rfl) h
theorem i_hash.hok (hE : EOk Try.prog (i_hash.E)) : HintOk Try.prog i_hash.E (bodyOf Try.f73) (.n (.a) (.n (.a) (.n (.a) (.n (.n (.a) (.b (.s (i_hash.S1)))) (.n (.a) (.n (.n (.a) (.b (.s (i_hash.S2)))) (.a))))))) := HintOk.n1 (Q := (True) ∧ ((True) ∧ ((True) ∧ (((True) ∧ (SumOk Try.prog i_hash.E (cB (cR (cL (cR (cR (cR (bodyOf Try.f73))))))) (i_hash.S1))) ∧ ((True) ∧ (((True) ∧ (SumOk Try.prog i_hash.E (cB (cR (cL (cR (cR (cR (cR (cR (bodyOf Try.f73))))))))) (i_hash.S2))) ∧ (True))))))) (by kernel_rfl) ⟨trivial, ⟨trivial, ⟨trivial, ⟨⟨trivial, (i_hash.ok1 hE)⟩, ⟨trivial, ⟨⟨trivial, (i_hash.ok2 hE)⟩, trivial⟩⟩⟩⟩⟩⟩
theorem i_hash.hE : EOk Try.prog (i_hash.E) := EOk.of ttOk (⟨gq86.fok, ⟨gq87.fok, ⟨gq88.fok, ⟨gq89.fok, ⟨gq90.fok, trivial⟩⟩⟩⟩⟩)
theorem i_hash.fok : FOk Try.prog 73 i_hash.fi :=
 fokS (E := i_hash.E) (wy := ⟨[[none]], [[]], []⟩) (h := (fun gs => .n (.a) (.n (.a) (.n (.a) (.n (.n (.a) (.b (.s (i_hash.S1)))) (.n (.a) (.n (.n (.a) (.b (.s (i_hash.S2)))) (.a)))))))) (G := fun t g => i_hash.F (fun y0 => g y0) t.1) (by kernel_rfl) i_hash.hE Try.func73 (by kernel_rfl) rfl (Nat.le_refl _) (fun t => HintOk.n1 (by kernel_rfl) (i_hash.hok i_hash.hE)) (fun t g => i_hash_nat g t.1) (fun t => by kernel_rfl)
def gq72.F {R : Type} (kk : Bool → Option R) (value : ByteArray) : Option R :=
 kk (decide ((ByteArray.size value : Int) ≤ (60 : Int)))
theorem gq72.F_nat {R S : Type} (g : R → Option S) (kk : Bool → Option R) (value) : gq72.F (fun y0 => (kk y0).bind g) value = (gq72.F kk value).bind g := by
 simp only [gq72.F, grd_bind, cnd_bind, bnd_bind, non_bind]
def gq72 (value : ByteArray) : Option Bool := gq72.F (fun y0 => some y0) value
def gq72.out : Bool → CRes := fun a => ⟨encL SV.enc [.one (.bool)] (a, ()), [encL SC.enc [] ()]⟩
def gq72.ps : List PS := [.val [none]]
def gq72.sA : List SA := [.v (.one (.str))]
def gq72.fi : FI := FIs gq72.sA (Bool) (fun t => gq72 t.1) gq72.out gq72.ps
def gq72.E : Env := ⟨tt, lkF [], 6, 0, [], []⟩
theorem gq72.hok (hE : EOk Try.prog (gq72.E)) : HintOk Try.prog gq72.E (bodyOf Try.f72) (.a) := HintOk.n1 (Q := True) (by kernel_rfl) trivial
theorem gq72.hE : EOk Try.prog (gq72.E) := EOk.of ttOk (trivial)
theorem gq72.fok : FOk Try.prog 72 gq72.fi :=
 fokS (E := gq72.E) (wy := ⟨[[none]], [[]], []⟩) (h := (fun gs => .a)) (G := fun t g => gq72.F (fun y0 => g y0) t.1) (by kernel_rfl) gq72.hE Try.func72 (by kernel_rfl) rfl (Nat.le_refl _) (fun t => HintOk.n1 (by kernel_rfl) (gq72.hok gq72.hE)) (fun t g => gq72.F_nat g (fun y0 => some y0) _) (fun t => by kernel_rfl)
def gq34.F {R : Type} (kk : Bool → Option R) (n_ : Int) (low : Int) (high : Int) : Option R :=
 cond (decide (n_ ≥ low)) (kk (decide (n_ ≤ high))) (kk false)
theorem gq34.F_nat {R S : Type} (g : R → Option S) (kk : Bool → Option R) (n_ low high) : gq34.F (fun y0 => (kk y0).bind g) n_ low high = (gq34.F kk n_ low high).bind g := by
 simp only [gq34.F, grd_bind, cnd_bind, bnd_bind, non_bind]
def gq34 (n_ : Int) (low : Int) (high : Int) : Option Bool := gq34.F (fun y0 => some y0) n_ low high
def gq34.out : Bool → CRes := fun a => ⟨encL SV.enc [.one (.bool)] (a, ()), [encL SC.enc [] (), encL SC.enc [] (), encL SC.enc [] ()]⟩
def gq34.ps : List PS := [.val [none], .val [none], .val [none]]
def gq34.sA : List SA := [.v (.one (.int .i64)), .v (.one (.int .i64)), .v (.one (.int .i64))]
def gq34.fi : FI := FIs gq34.sA (Bool) (fun t => gq34 t.1 t.2.1 t.2.2.1) gq34.out gq34.ps
def gq34.E : Env := ⟨tt, lkF [], 15, 0, [], []⟩
theorem gq34.hok (hE : EOk Try.prog (gq34.E)) : HintOk Try.prog gq34.E (bodyOf Try.f34) (.a) := HintOk.n1 (Q := True) (by kernel_rfl) trivial
theorem gq34.hE : EOk Try.prog (gq34.E) := EOk.of ttOk (trivial)
theorem gq34.fok : FOk Try.prog 34 gq34.fi :=
 fokS (E := gq34.E) (wy := ⟨[[none]], [[], [], []], []⟩) (h := (fun gs => .a)) (G := fun t g => gq34.F (fun y0 => g y0) t.1 t.2.1 t.2.2.1) (by kernel_rfl) gq34.hE Try.func34 (by kernel_rfl) rfl (Nat.le_refl _) (fun t => HintOk.n1 (by kernel_rfl) (gq34.hok gq34.hE)) (fun t g => gq34.F_nat g (fun y0 => some y0) _ _ _) (fun t => by kernel_rfl)
def gq108.F {R : Type} (kk : Bool → Option R) (key : ByteArray) : Option R :=
 (gq34 (ByteArray.size key : Int) (1 : Int) (24 : Int)).bind fun r =>
 kk r
theorem gq108.F_nat {R S : Type} (g : R → Option S) (kk : Bool → Option R) (key) : gq108.F (fun y0 => (kk y0).bind g) key = (gq108.F kk key).bind g := by
 simp only [gq108.F, grd_bind, cnd_bind, bnd_bind, non_bind]
def gq108 (key : ByteArray) : Option Bool := gq108.F (fun y0 => some y0) key
def gq108.out : Bool → CRes := fun a => ⟨encL SV.enc [.one (.bool)] (a, ()), [encL SC.enc [] ()]⟩
def gq108.ps : List PS := [.val [none]]
def gq108.sA : List SA := [.v (.one (.str))]
def gq108.fi : FI := FIs gq108.sA (Bool) (fun t => gq108 t.1) gq108.out gq108.ps
def gq108.E : Env := ⟨tt, lkF [(34, gq34.fi)], 6, 0, [], []⟩
theorem gq108.hok (hE : EOk Try.prog (gq108.E)) : HintOk Try.prog gq108.E (bodyOf Try.f108) (.a) := HintOk.n1 (Q := True) (by kernel_rfl) trivial
theorem gq108.hE : EOk Try.prog (gq108.E) := EOk.of ttOk (⟨gq34.fok, trivial⟩)
theorem gq108.fok : FOk Try.prog 108 gq108.fi :=
 fokS (E := gq108.E) (wy := ⟨[[none]], [[]], []⟩) (h := (fun gs => .a)) (G := fun t g => gq108.F (fun y0 => g y0) t.1) (by kernel_rfl) gq108.hE Try.func108 (by kernel_rfl) rfl (Nat.le_refl _) (fun t => HintOk.n1 (by kernel_rfl) (gq108.hok gq108.hE)) (fun t g => gq108.F_nat g (fun y0 => some y0) _) (fun t => by kernel_rfl)
def gq93.F {R : Type} (kk : Bool → Option R) (b_Key : ByteArray) (b_Value : ByteArray) (b_At : Int) (b_Kids : List (El kk8eb)) : Option R :=
 cond (b_At == (256 : Int)) (
  (gq108 b_Key).bind fun r =>
  cond (r) (
   (gq72 b_Value).bind fun r1 =>
   cond (r1) (kk ((List.length b_Kids : Int) == (0 : Int))) (kk false)) (kk false)) (kk false)
theorem gq93.F_nat {R S : Type} (g : R → Option S) (kk : Bool → Option R) (b_Key b_Value b_At b_Kids) : gq93.F (fun y0 => (kk y0).bind g) b_Key b_Value b_At b_Kids = (gq93.F kk b_Key b_Value b_At b_Kids).bind g := by
 simp only [gq93.F, grd_bind, cnd_bind, bnd_bind, non_bind]
def gq93 (b_Key : ByteArray) (b_Value : ByteArray) (b_At : Int) (b_Kids : List (El kk8eb)) : Option Bool := gq93.F (fun y0 => some y0) b_Key b_Value b_At b_Kids
def gq93.out : Bool → CRes := fun a => ⟨encL SV.enc [.one (.bool)] (a, ()), [encL SC.enc [] ()]⟩
def gq93.ps : List PS := [.val [none, none, none, some (kk8eb, false)]]
def gq93.sA : List SA := [.v (.agg [.str, .str, .int .i64, .slv [] kk8eb])]
def gq93.fi : FI := FIs gq93.sA (Bool) (fun t => gq93 t.1.1 t.1.2.1 t.1.2.2.1 t.1.2.2.2.1) gq93.out gq93.ps
def gq93.E : Env := ⟨tt, lkF [(72, gq72.fi), (108, gq108.fi)], 22, 0, [], []⟩
theorem gq93.hok (hE : EOk Try.prog (gq93.E)) : HintOk Try.prog gq93.E (bodyOf Try.f93) (.a) := HintOk.n1 (Q := True) (by kernel_rfl) trivial
theorem gq93.hE : EOk Try.prog (gq93.E) := EOk.of ttOk (⟨gq72.fok, ⟨gq108.fok, trivial⟩⟩)
theorem gq93.fok : FOk Try.prog 93 gq93.fi :=
 fokS (E := gq93.E) (wy := ⟨[[none]], [[]], []⟩) (h := (fun gs => .a)) (G := fun t g => gq93.F (fun y0 => g y0) t.1.1 t.1.2.1 t.1.2.2.1 t.1.2.2.2.1) (by kernel_rfl) gq93.hE Try.func93 (by kernel_rfl) rfl (Nat.le_refl _) (fun t => HintOk.n1 (by kernel_rfl) (gq93.hok gq93.hE)) (fun t g => gq93.F_nat g (fun y0 => some y0) _ _ _ _) (fun t => by kernel_rfl)
def gq94.F {R : Type} (kk : Bool → Option R) (b_Key : ByteArray) (b_Value : ByteArray) (b_At : Int) (b_Kids : List (El kk8eb)) : Option R :=
 cond (sEq b_Key ByteArray.empty) (
  cond (sEq b_Value ByteArray.empty) (
   (gq34 b_At (0 : Int) (255 : Int)).bind fun r =>
   cond (r) (kk ((List.length b_Kids : Int) == (2 : Int))) (kk false)) (kk false)) (kk false)
theorem gq94.F_nat {R S : Type} (g : R → Option S) (kk : Bool → Option R) (b_Key b_Value b_At b_Kids) : gq94.F (fun y0 => (kk y0).bind g) b_Key b_Value b_At b_Kids = (gq94.F kk b_Key b_Value b_At b_Kids).bind g := by
 simp only [gq94.F, grd_bind, cnd_bind, bnd_bind, non_bind]
def gq94 (b_Key : ByteArray) (b_Value : ByteArray) (b_At : Int) (b_Kids : List (El kk8eb)) : Option Bool := gq94.F (fun y0 => some y0) b_Key b_Value b_At b_Kids
def gq94.out : Bool → CRes := fun a => ⟨encL SV.enc [.one (.bool)] (a, ()), [encL SC.enc [] ()]⟩
def gq94.ps : List PS := [.val [none, none, none, some (kk8eb, false)]]
def gq94.sA : List SA := [.v (.agg [.str, .str, .int .i64, .slv [] kk8eb])]
def gq94.fi : FI := FIs gq94.sA (Bool) (fun t => gq94 t.1.1 t.1.2.1 t.1.2.2.1 t.1.2.2.2.1) gq94.out gq94.ps
def gq94.E : Env := ⟨tt, lkF [(34, gq34.fi)], 22, 0, [], []⟩
theorem gq94.hok (hE : EOk Try.prog (gq94.E)) : HintOk Try.prog gq94.E (bodyOf Try.f94) (.a) := HintOk.n1 (Q := True) (by kernel_rfl) trivial
theorem gq94.hE : EOk Try.prog (gq94.E) := EOk.of ttOk (⟨gq34.fok, trivial⟩)
theorem gq94.fok : FOk Try.prog 94 gq94.fi :=
 fokS (E := gq94.E) (wy := ⟨[[none]], [[]], []⟩) (h := (fun gs => .a)) (G := fun t g => gq94.F (fun y0 => g y0) t.1.1 t.1.2.1 t.1.2.2.1 t.1.2.2.2.1) (by kernel_rfl) gq94.hE Try.func94 (by kernel_rfl) rfl (Nat.le_refl _) (fun t => HintOk.n1 (by kernel_rfl) (gq94.hok gq94.hE)) (fun t g => gq94.F_nat g (fun y0 => some y0) _ _ _ _) (fun t => by kernel_rfl)
def gq109.l1 {R : Type} (f : (((ByteArray × ByteArray × ByteArray × Unit) × Unit) → Option (Bool × Unit))) (kke0 : Option R) (kkr : Int → Option R) : Nat → List (El kk27b) → Int → Int → Option R
 | 0, _, _, _ => none
 | n + 1, s, i, i1 =>
  cond (decide (i1 < i)) (
   grd (gIx i1 (List.length s)) <|
   (f (((rdE kk27b s (Int.toNat i1)).1, (rdE kk27b s (Int.toNat i1)).2.1, (rdE kk27b s (Int.toNat i1)).2.2, ()), ())).bind fun r =>
   cond (r.1) (kkr i1) (
    gq109.l1 f kke0 kkr n s i (IntKind.wrap .i64 (i1 + (1 : Int))))) (kke0)
theorem gq109.l1_nat {R S : Type} (g : R → Option S) (f : (((ByteArray × ByteArray × ByteArray × Unit) × Unit) → Option (Bool × Unit))) (kke0 : Option R) (kkr : Int → Option R) : ∀ n s i i1, gq109.l1 f (kke0.bind g) (fun y0 => (kkr y0).bind g) n s i i1 = (gq109.l1 f kke0 kkr n s i i1).bind g := by
 intro n
 induction n with
 | zero => intros; rfl
 | succ n ih => intros; simp only [gq109.l1, grd_bind, cnd_bind, bnd_bind, non_bind, ih]
def gq109.F {R : Type} (kk : Int → Option R) (s : List (El kk27b)) (f : (((ByteArray × ByteArray × ByteArray × Unit) × Unit) → Option (Bool × Unit))) : Option R :=
 gq109.l1 f (kk (-1 : Int)) (fun i => kk i) fuel s (List.length s : Int) (0 : Int)
theorem gq109.F_nat {R S : Type} (g : R → Option S) (kk : Int → Option R) (s f) : gq109.F (fun y0 => (kk y0).bind g) s f = (gq109.F kk s f).bind g := by
 simp only [gq109.F, grd_bind, cnd_bind, bnd_bind, non_bind, ← gq109.l1_nat]
def gq109 (s : List (El kk27b)) (f : (((ByteArray × ByteArray × ByteArray × Unit) × Unit) → Option (Bool × Unit))) : Option Int := gq109.F (fun y0 => some y0) s f
def gq109.out : Int → CRes := fun a => ⟨encL SV.enc [.one (.int .i64)] (a, ()), [encL SC.enc [] (), encL SC.enc [] ()]⟩
def gq109.ps : List PS := [.val [some (kk27b, false)], .fn [.one (.bool)]]
def gq109.sA : List SA := [.v (.one (.slv [] kk27b)), .fn [.agg [.str, .str, .str]] [.one (.bool)]]
def gq109.fi : FI := FIs gq109.sA (Int) (fun t => gq109 t.1 t.2.1) gq109.out gq109.ps
def gq109.E : Env := ⟨tt, lkF [], 19, 0, [], []⟩
def gq109.sh1 : SK := ⟨[.v (.one (.slv [1] kk27b)), .v (.one (.fv 0)), .v (.one (.int .i64)), .v (.one (.int .i64))], []⟩
def gq109.sh1e0 : SK := ⟨[], []⟩
def gq109.sh1r : SK := ⟨[.v (.one (.int .i64))], []⟩
def gq109.ko1 : Ex → List CastAt × List Nat
 | .nrm => ([], [])
 | .ret => ([], [4])
 | .ext i => cond (Nat.beq i 0) ([], []) ([], [])
def gq109.G1 (f : (((ByteArray × ByteArray × ByteArray × Unit) × Unit) → Option (Bool × Unit))) (n : Nat) (R : Type) (t : gq109.sh1.T) (K : Ex → Kp → Option R) : Option R := gq109.l1 f (K (.ext 0) (SK.enc gq109.sh1e0 ((), ()))) (fun y0 => K .ret (SK.enc gq109.sh1r ((y0, ()), ()))) n t.1.1 t.1.2.2.1 t.1.2.2.2.1
def gq109.S1 (f : (((ByteArray × ByteArray × ByteArray × Unit) × Unit) → Option (Bool × Unit))) : Sum := ⟨([], [0, 1, 7, 8]), sumF gq109.sh1 (gq109.G1 f fuel), gq109.ko1⟩
theorem gq109.ok1 (f : (((ByteArray × ByteArray × ByteArray × Unit) × Unit) → Option (Bool × Unit))) (hE : EOk Try.prog (gq109.E)) : SumOk Try.prog { (gq109.E) with gv := [fnE [.agg [.str, .str, .str]] [.one (.bool)] f] } (cB (cR (cL (cR (bodyOf Try.f109))))) (gq109.S1 f) := by
 have hh : HintOk Try.prog { (gq109.E) with gv := [fnE [.agg [.str, .str, .str]] [.one (.bool)] f] } (cB (cB (cR (cL (cR (bodyOf Try.f109)))))) (.a) := HintOk.n1 (Q := True) (by kernel_rfl) trivial
 have h := loopS (kin := ([], [0, 1, 7, 8])) (kout := gq109.ko1) (sh := gq109.sh1) (F := gq109.G1 f) (ops_ok (hE.gv _)) (by kernel_rfl) hh (fun _ _ _ => rfl) (fun n R t K => by kernel_rfl) fuel
 exact HintOk.n1 (c := (cB (cR (cL (cR (bodyOf Try.f109)))))) (h := .s (gq109.S1 f)) (P := Try.prog) (E := { (gq109.E) with gv := [fnE [.agg [.str, .str, .str]] [.one (.bool)] f] }) (by kernel_rfl) h
theorem gq109.hok (f : (((ByteArray × ByteArray × ByteArray × Unit) × Unit) → Option (Bool × Unit))) (hE : EOk Try.prog (gq109.E)) : HintOk Try.prog { (gq109.E) with gv := [fnE [.agg [.str, .str, .str]] [.one (.bool)] f] } (bodyOf Try.f109) (.n (.a) (.n (.n (.a) (.b (.s (gq109.S1 f)))) (.a))) := HintOk.n1 (Q := (True) ∧ (((True) ∧ (SumOk Try.prog { (gq109.E) with gv := [fnE [.agg [.str, .str, .str]] [.one (.bool)] f] } (cB (cR (cL (cR (bodyOf Try.f109))))) (gq109.S1 f))) ∧ (True))) (by kernel_rfl) ⟨trivial, ⟨⟨trivial, (gq109.ok1 f hE)⟩, trivial⟩⟩
theorem gq109.hE : EOk Try.prog (gq109.E) := EOk.of ttOk (trivial)
theorem gq109.fok : FOk Try.prog 109 gq109.fi :=
 fokS (E := gq109.E) (wy := ⟨[[none]], [[], []], []⟩) (h := (fun gs => let f := fnP [.agg [.str, .str, .str]] [.one (.bool)] (gN 0 gs); .n (.a) (.n (.n (.a) (.b (.s (gq109.S1 f)))) (.a)))) (G := fun t g => gq109.F (fun y0 => g y0) t.1 t.2.1) (by kernel_rfl) gq109.hE Try.func109 (by kernel_rfl) rfl (Nat.le_refl _) (fun t => HintOk.n1 (by kernel_rfl) (gq109.hok t.2.1 gq109.hE)) (fun t g => gq109.F_nat g (fun y0 => some y0) _ _) (fun t => by kernel_rfl)
def gq95.F {R : Type} (kk : Bool → Option R) (s : List (El kk27b)) (f : (((ByteArray × ByteArray × ByteArray × Unit) × Unit) → Option (Bool × Unit))) : Option R :=
 (gq109 s f).bind fun r =>
 kk (decide (r ≥ (0 : Int)))
theorem gq95.F_nat {R S : Type} (g : R → Option S) (kk : Bool → Option R) (s f) : gq95.F (fun y0 => (kk y0).bind g) s f = (gq95.F kk s f).bind g := by
 simp only [gq95.F, grd_bind, cnd_bind, bnd_bind, non_bind]
def gq95 (s : List (El kk27b)) (f : (((ByteArray × ByteArray × ByteArray × Unit) × Unit) → Option (Bool × Unit))) : Option Bool := gq95.F (fun y0 => some y0) s f
def gq95.out : Bool → CRes := fun a => ⟨encL SV.enc [.one (.bool)] (a, ()), [encL SC.enc [] (), encL SC.enc [] ()]⟩
def gq95.ps : List PS := [.val [some (kk27b, false)], .fn [.one (.bool)]]
def gq95.sA : List SA := [.v (.one (.slv [] kk27b)), .fn [.agg [.str, .str, .str]] [.one (.bool)]]
def gq95.fi : FI := FIs gq95.sA (Bool) (fun t => gq95 t.1 t.2.1) gq95.out gq95.ps
def gq95.E : Env := ⟨tt, lkF [(109, gq109.fi)], 9, 0, [], []⟩
theorem gq95.hok (f : (((ByteArray × ByteArray × ByteArray × Unit) × Unit) → Option (Bool × Unit))) (hE : EOk Try.prog (gq95.E)) : HintOk Try.prog { (gq95.E) with gv := [fnE [.agg [.str, .str, .str]] [.one (.bool)] f] } (bodyOf Try.f95) (.a) := HintOk.n1 (Q := True) (by kernel_rfl) trivial
theorem gq95.hE : EOk Try.prog (gq95.E) := EOk.of ttOk (⟨gq109.fok, trivial⟩)
theorem gq95.fok : FOk Try.prog 95 gq95.fi :=
 fokS (E := gq95.E) (wy := ⟨[[none]], [[], []], []⟩) (h := (fun gs => let f := fnP [.agg [.str, .str, .str]] [.one (.bool)] (gN 0 gs); .a)) (G := fun t g => gq95.F (fun y0 => g y0) t.1 t.2.1) (by kernel_rfl) gq95.hE Try.func95 (by kernel_rfl) rfl (Nat.le_refl _) (fun t => HintOk.n1 (by kernel_rfl) (gq95.hok t.2.1 gq95.hE)) (fun t g => gq95.F_nat g (fun y0 => some y0) _ _) (fun t => by kernel_rfl)
def i_bit.F {R : Type} (kk : Int → Option R) (h : ByteArray) (at_ : Int) : Option R :=
 grd (gNz (8 : Int)) <|
 grd (gIx (IntKind.wrap .i64 (Int.tdiv at_ (8 : Int))) (ByteArray.size h)) <|
 grd (gNz (8 : Int)) <|
 grd (gSh (IntKind.wrap .i64 ((7 : Int) - (Int.tmod at_ (8 : Int))))) <|
 kk (iAnd .i64 (IntKind.wrap .i64 (iShr .u8 (byteAt h (IntKind.wrap .i64 (Int.tdiv at_ (8 : Int)))) (IntKind.wrap .i64 ((7 : Int) - (Int.tmod at_ (8 : Int)))))) (1 : Int))
theorem i_bit.F_nat {R S : Type} (g : R → Option S) (kk : Int → Option R) (h at_) : i_bit.F (fun y0 => (kk y0).bind g) h at_ = (i_bit.F kk h at_).bind g := by
 simp only [i_bit.F, grd_bind, cnd_bind, bnd_bind, non_bind]
def i_bit (h : ByteArray) (at_ : Int) : Option Int := i_bit.F (fun y0 => some y0) h at_
def i_bit.out : Int → CRes := fun a => ⟨encL SV.enc [.one (.int .i64)] (a, ()), [encL SC.enc [] (), encL SC.enc [] ()]⟩
def i_bit.ps : List PS := [.val [none], .val [none]]
def i_bit.sA : List SA := [.v (.one (.str)), .v (.one (.int .i64))]
def i_bit.fi : FI := FIs i_bit.sA (Int) (fun t => i_bit t.1 t.2.1) i_bit.out i_bit.ps
def i_bit.E : Env := ⟨tt, lkF [], 15, 0, [], []⟩
theorem i_bit.hok (hE : EOk Try.prog (i_bit.E)) : HintOk Try.prog i_bit.E (bodyOf Try.f97) (.a) := HintOk.n1 (Q := True) (by kernel_rfl) trivial
theorem i_bit.hE : EOk Try.prog (i_bit.E) := EOk.of ttOk (trivial)
theorem i_bit.fok : FOk Try.prog 97 i_bit.fi :=
 fokS (E := i_bit.E) (wy := ⟨[[none]], [[], []], []⟩) (h := (fun gs => .a)) (G := fun t g => i_bit.F (fun y0 => g y0) t.1 t.2.1) (by kernel_rfl) i_bit.hE Try.func97 (by kernel_rfl) rfl (Nat.le_refl _) (fun t => HintOk.n1 (by kernel_rfl) (i_bit.hok i_bit.hE)) (fun t g => i_bit.F_nat g (fun y0 => some y0) _ _) (fun t => by kernel_rfl)
def gq96.F {R : Type} (kk : Bool → Option R) (p_key : ByteArray) (p_value : ByteArray) (p_hash : ByteArray) (x : ByteArray) (x1 : ByteArray) (x2 : Int) (x3 : List (El kk8eb)) (x4 : Int) : Option R :=
 (i_bit p_hash x2).bind fun r =>
 kk (r != x4)
theorem gq96.F_nat {R S : Type} (g : R → Option S) (kk : Bool → Option R) (p_key p_value p_hash x x1 x2 x3 x4) : gq96.F (fun y0 => (kk y0).bind g) p_key p_value p_hash x x1 x2 x3 x4 = (gq96.F kk p_key p_value p_hash x x1 x2 x3 x4).bind g := by
 simp only [gq96.F, grd_bind, cnd_bind, bnd_bind, non_bind]
def gq96 (p_key : ByteArray) (p_value : ByteArray) (p_hash : ByteArray) (x : ByteArray) (x1 : ByteArray) (x2 : Int) (x3 : List (El kk8eb)) (x4 : Int) : Option Bool := gq96.F (fun y0 => some y0) p_key p_value p_hash x x1 x2 x3 x4
def gq96.out : Bool → CRes := fun a => ⟨encL SV.enc [.one (.bool)] (a, ()), [encL SC.enc [] (), encL SC.enc [] (), encL SC.enc [] ()]⟩
def gq96.ps : List PS := [.val [none, none, none], .ro [none, none, none, some (kk8eb, false)], .ro [none]]
def gq96.sA : List SA := [.v (.agg [.str, .str, .str]), .ro [.str, .str, .int .i64, .slv [] kk8eb], .ro [.int .i64]]
def gq96.fi : FI := FIs gq96.sA (Bool) (fun t => gq96 t.1.1 t.1.2.1 t.1.2.2.1 t.2.1.1 t.2.1.2.1 t.2.1.2.2.1 t.2.1.2.2.2.1 t.2.2.1.1) gq96.out gq96.ps
def gq96.E : Env := ⟨tt, lkF [(97, i_bit.fi)], 12, 0, [], []⟩
theorem gq96.hok (hE : EOk Try.prog (gq96.E)) : HintOk Try.prog gq96.E (bodyOf Try.f96) (.a) := HintOk.n1 (Q := True) (by kernel_rfl) trivial
theorem gq96.hE : EOk Try.prog (gq96.E) := EOk.of ttOk (⟨i_bit.fok, trivial⟩)
theorem gq96.fok : FOk Try.prog 96 gq96.fi :=
 fokS (E := gq96.E) (wy := ⟨[[none]], [[], [], []], []⟩) (h := (fun gs => .a)) (G := fun t g => gq96.F (fun y0 => g y0) t.1.1 t.1.2.1 t.1.2.2.1 t.2.1.1 t.2.1.2.1 t.2.1.2.2.1 t.2.1.2.2.2.1 t.2.2.1.1) (by kernel_rfl) gq96.hE Try.func96 (by kernel_rfl) rfl (Nat.le_refl _) (fun t => HintOk.n1 (by kernel_rfl) (gq96.hok gq96.hE)) (fun t g => gq96.F_nat g (fun y0 => some y0) _ _ _ _ _ _ _ _) (fun t => by kernel_rfl)
def gq99.l1 {R : Type} (kke0 : Option R) (kkr : Bool → Option R) : Nat → ByteArray → ByteArray → Int → Int → Option R
 | 0, _, _, _, _ => none
 | n + 1, a, b, i, i1 =>
  cond (decide (i1 < i)) (
   (i_bit a i1).bind fun r =>
   (i_bit b i1).bind fun r1 =>
   cond (r != r1) (kkr false) (gq99.l1 kke0 kkr n a b i (IntKind.wrap .i64 (i1 + (1 : Int))))) (kke0)
theorem gq99.l1_nat {R S : Type} (g : R → Option S) (kke0 : Option R) (kkr : Bool → Option R) : ∀ n a b i i1, gq99.l1 (kke0.bind g) (fun y0 => (kkr y0).bind g) n a b i i1 = (gq99.l1 kke0 kkr n a b i i1).bind g := by
 intro n
 induction n with
 | zero => intros; rfl
 | succ n ih => intros; simp only [gq99.l1, grd_bind, cnd_bind, bnd_bind, non_bind, ih]
def gq99.F {R : Type} (kk : Bool → Option R) (a : ByteArray) (b : ByteArray) (at_ : Int) : Option R :=
 gq99.l1 (kk true) (fun b1 => kk b1) fuel a b at_ (0 : Int)
theorem gq99.F_nat {R S : Type} (g : R → Option S) (kk : Bool → Option R) (a b at_) : gq99.F (fun y0 => (kk y0).bind g) a b at_ = (gq99.F kk a b at_).bind g := by
 simp only [gq99.F, grd_bind, cnd_bind, bnd_bind, non_bind, ← gq99.l1_nat]
def gq99 (a : ByteArray) (b : ByteArray) (at_ : Int) : Option Bool := gq99.F (fun y0 => some y0) a b at_
def gq99.out : Bool → CRes := fun a => ⟨encL SV.enc [.one (.bool)] (a, ()), [encL SC.enc [] (), encL SC.enc [] (), encL SC.enc [] ()]⟩
def gq99.ps : List PS := [.val [none], .val [none], .val [none]]
def gq99.sA : List SA := [.v (.one (.str)), .v (.one (.str)), .v (.one (.int .i64))]
def gq99.fi : FI := FIs gq99.sA (Bool) (fun t => gq99 t.1 t.2.1 t.2.2.1) gq99.out gq99.ps
def gq99.E : Env := ⟨tt, lkF [(97, i_bit.fi)], 20, 0, [], []⟩
def gq99.sh1 : SK := ⟨[.v (.one (.str)), .v (.one (.str)), .v (.one (.int .i64)), .v (.one (.int .i64))], []⟩
def gq99.sh1e0 : SK := ⟨[], []⟩
def gq99.sh1r : SK := ⟨[.v (.one (.bool))], []⟩
def gq99.ko1 : Ex → List CastAt × List Nat
 | .nrm => ([], [])
 | .ret => ([], [6])
 | .ext i => cond (Nat.beq i 0) ([], []) ([], [])
def gq99.G1 (n : Nat) (R : Type) (t : gq99.sh1.T) (K : Ex → Kp → Option R) : Option R := gq99.l1 (K (.ext 0) (SK.enc gq99.sh1e0 ((), ()))) (fun y0 => K .ret (SK.enc gq99.sh1r ((y0, ()), ()))) n t.1.1 t.1.2.1 t.1.2.2.1 t.1.2.2.2.1
def gq99.S1 : Sum := ⟨([], [0, 1, 8, 9]), sumF gq99.sh1 (gq99.G1 fuel), gq99.ko1⟩
theorem gq99.ok1 (hE : EOk Try.prog (gq99.E)) : SumOk Try.prog gq99.E (cB (cR (cL (cR (bodyOf Try.f99))))) (gq99.S1) := by
 have hh : HintOk Try.prog gq99.E (cB (cB (cR (cL (cR (bodyOf Try.f99)))))) (.a) := HintOk.n1 (Q := True) (by kernel_rfl) trivial
 have h := loopS (kin := ([], [0, 1, 8, 9])) (kout := gq99.ko1) (sh := gq99.sh1) (F := gq99.G1) (ops_ok (hE.gv _)) (by kernel_rfl) hh (fun _ _ _ => rfl) (fun n R t K => by kernel_rfl) fuel
 exact HintOk.n1 (c := (cB (cR (cL (cR (bodyOf Try.f99)))))) (h := .s (gq99.S1)) (P := Try.prog) (E := gq99.E) (by kernel_rfl) h
theorem gq99.hok (hE : EOk Try.prog (gq99.E)) : HintOk Try.prog gq99.E (bodyOf Try.f99) (.n (.a) (.n (.n (.a) (.b (.s (gq99.S1)))) (.a))) := HintOk.n1 (Q := (True) ∧ (((True) ∧ (SumOk Try.prog gq99.E (cB (cR (cL (cR (bodyOf Try.f99))))) (gq99.S1))) ∧ (True))) (by kernel_rfl) ⟨trivial, ⟨⟨trivial, (gq99.ok1 hE)⟩, trivial⟩⟩
theorem gq99.hE : EOk Try.prog (gq99.E) := EOk.of ttOk (⟨i_bit.fok, trivial⟩)
theorem gq99.fok : FOk Try.prog 99 gq99.fi :=
 fokS (E := gq99.E) (wy := ⟨[[none]], [[], [], []], []⟩) (h := (fun gs => .n (.a) (.n (.n (.a) (.b (.s (gq99.S1)))) (.a)))) (G := fun t g => gq99.F (fun y0 => g y0) t.1 t.2.1 t.2.2.1) (by kernel_rfl) gq99.hE Try.func99 (by kernel_rfl) rfl (Nat.le_refl _) (fun t => HintOk.n1 (by kernel_rfl) (gq99.hok gq99.hE)) (fun t g => gq99.F_nat g (fun y0 => some y0) _ _ _) (fun t => by kernel_rfl)
def gq98.F {R : Type} (kk : Bool → Option R) (p_key : ByteArray) (p_value : ByteArray) (p_hash : ByteArray) (x : List (El kk27b)) (x1 : ByteArray) (x2 : ByteArray) (x3 : Int) (x4 : List (El kk8eb)) : Option R :=
 grd (gIx (0 : Int) (List.length x)) <|
 (gq99 p_hash ((rdE kk27b x (Int.toNat (0 : Int))).2.2) x3).bind fun r =>
 kk (!r)
theorem gq98.F_nat {R S : Type} (g : R → Option S) (kk : Bool → Option R) (p_key p_value p_hash x x1 x2 x3 x4) : gq98.F (fun y0 => (kk y0).bind g) p_key p_value p_hash x x1 x2 x3 x4 = (gq98.F kk p_key p_value p_hash x x1 x2 x3 x4).bind g := by
 simp only [gq98.F, grd_bind, cnd_bind, bnd_bind, non_bind]
def gq98 (p_key : ByteArray) (p_value : ByteArray) (p_hash : ByteArray) (x : List (El kk27b)) (x1 : ByteArray) (x2 : ByteArray) (x3 : Int) (x4 : List (El kk8eb)) : Option Bool := gq98.F (fun y0 => some y0) p_key p_value p_hash x x1 x2 x3 x4
def gq98.out : Bool → CRes := fun a => ⟨encL SV.enc [.one (.bool)] (a, ()), [encL SC.enc [] (), encL SC.enc [] (), encL SC.enc [] ()]⟩
def gq98.ps : List PS := [.val [none, none, none], .ro [some (kk27b, false)], .ro [none, none, none, some (kk8eb, false)]]
def gq98.sA : List SA := [.v (.agg [.str, .str, .str]), .ro [.slv [] kk27b], .ro [.str, .str, .int .i64, .slv [] kk8eb]]
def gq98.fi : FI := FIs gq98.sA (Bool) (fun t => gq98 t.1.1 t.1.2.1 t.1.2.2.1 t.2.1.1 t.2.2.1.1 t.2.2.1.2.1 t.2.2.1.2.2.1 t.2.2.1.2.2.2.1) gq98.out gq98.ps
def gq98.E : Env := ⟨tt, lkF [(99, gq99.fi)], 15, 0, [], []⟩
theorem gq98.hok (hE : EOk Try.prog (gq98.E)) : HintOk Try.prog gq98.E (bodyOf Try.f98) (.a) := HintOk.n1 (Q := True) (by kernel_rfl) trivial
theorem gq98.hE : EOk Try.prog (gq98.E) := EOk.of ttOk (⟨gq99.fok, trivial⟩)
theorem gq98.fok : FOk Try.prog 98 gq98.fi :=
 fokS (E := gq98.E) (wy := ⟨[[none]], [[], [], []], []⟩) (h := (fun gs => .a)) (G := fun t g => gq98.F (fun y0 => g y0) t.1.1 t.1.2.1 t.1.2.2.1 t.2.1.1 t.2.2.1.1 t.2.2.1.2.1 t.2.2.1.2.2.1 t.2.2.1.2.2.2.1) (by kernel_rfl) gq98.hE Try.func98 (by kernel_rfl) rfl (Nat.le_refl _) (fun t => HintOk.n1 (by kernel_rfl) (gq98.hok gq98.hE)) (fun t g => gq98.F_nat g (fun y0 => some y0) _ _ _ _ _ _ _ _) (fun t => by kernel_rfl)
def gq85.l1 {R : Type} (rc : ByteArray → ByteArray → Int → List (El kk8eb) → Int → Int → Option (List (El kk27b) × Bool × Int)) (kke0 : Int → ByteArray → ByteArray → Int → List (El kk8eb) → List (El kk27b) → Option R) (kkr : Bool → Int → Option R) : Nat → List (El kk8eb) → Int → Int → Int → ByteArray → ByteArray → Int → List (El kk8eb) → List (El kk27b) → Option R
 | 0, _, _, _, _, _, _, _, _, _ => none
 | n + 1, l, i, i1, room, b, b1, b2, b3, l1 =>
  cond (decide (i1 < i)) (
   grd (gIx i1 (List.length l)) <|
   (rc ((Tree.val (rdE kk8eb l (Int.toNat i1))).1) ((Tree.val (rdE kk8eb l (Int.toNat i1))).2.1) ((Tree.val (rdE kk8eb l (Int.toNat i1))).2.2) (Tree.kids (rdE kk8eb l (Int.toNat i1))) b2 room).bind fun r =>
   cond (!r.2.1) (kkr false r.2.2) (
    (gq95 r.1 (fun t => (gq96 t.1.1 t.1.2.1 t.1.2.2.1 b b1 b2 b3 i1).bind fun a => some (a, ()))).bind fun r1 =>
    cond (r1) (kkr false r.2.2) (
     grd (gRm (((List.length l1) + (List.length r.1)) * 48)) <|
     gq85.l1 rc kke0 kkr n l i (IntKind.wrap .i64 (i1 + (1 : Int))) r.2.2 b b1 b2 b3 (l1 ++ r.1)))) (kke0 room b b1 b2 b3 l1)
theorem gq85.l1_nat {R S : Type} (g : R → Option S) (rc : ByteArray → ByteArray → Int → List (El kk8eb) → Int → Int → Option (List (El kk27b) × Bool × Int)) (kke0 : Int → ByteArray → ByteArray → Int → List (El kk8eb) → List (El kk27b) → Option R) (kkr : Bool → Int → Option R) : ∀ n l i i1 room b b1 b2 b3 l1, gq85.l1 rc (fun y0 y1 y2 y3 y4 y5 => (kke0 y0 y1 y2 y3 y4 y5).bind g) (fun y0 y1 => (kkr y0 y1).bind g) n l i i1 room b b1 b2 b3 l1 = (gq85.l1 rc kke0 kkr n l i i1 room b b1 b2 b3 l1).bind g := by
 intro n
 induction n with
 | zero => intros; rfl
 | succ n ih => intros; simp only [gq85.l1, grd_bind, cnd_bind, bnd_bind, non_bind, ih]
def gq85.F {R : Type} (rc : ByteArray → ByteArray → Int → List (El kk8eb) → Int → Int → Option (List (El kk27b) × Bool × Int)) (kk : List (El kk27b) → Bool → Int → Option R) (b_Key : ByteArray) (b_Value : ByteArray) (b_At : Int) (b_Kids : List (El kk8eb)) (above : Int) (room : Int) : Option R :=
 (gq93 b_Key b_Value b_At b_Kids).bind fun r =>
 cond (r) (
  (i_hash b_Key).bind fun r1 =>
  kk [(b_Key, (b_Value, r1))] (decide ((IntKind.wrap .i64 (room - (1 : Int))) ≥ (0 : Int))) (IntKind.wrap .i64 (room - (1 : Int)))) (
  (gq94 b_Key b_Value b_At b_Kids).bind fun r2 =>
  cond (!r2) (kk [] false room) (
   cond (decide (b_At ≤ above)) (kk [] false room) (
    gq85.l1 rc (fun room1 b b1 b2 b3 l =>
     (gq95 l (fun t => (gq98 t.1.1 t.1.2.1 t.1.2.2.1 l b b1 b2 b3).bind fun a => some (a, ()))).bind fun r3 =>
     kk l (!r3) room1) (fun b4 room2 => kk [] b4 room2) fuel b_Kids (List.length b_Kids : Int) (0 : Int) room b_Key b_Value b_At b_Kids ([] : List (El kk27b)))))
theorem gq85.F_nat {R S : Type} (g : R → Option S) (rc : ByteArray → ByteArray → Int → List (El kk8eb) → Int → Int → Option (List (El kk27b) × Bool × Int)) (kk : List (El kk27b) → Bool → Int → Option R) (b_Key b_Value b_At b_Kids above room) : gq85.F rc (fun y0 y1 y2 => (kk y0 y1 y2).bind g) b_Key b_Value b_At b_Kids above room = (gq85.F rc kk b_Key b_Value b_At b_Kids above room).bind g := by
 simp only [gq85.F, grd_bind, cnd_bind, bnd_bind, non_bind, ← gq85.l1_nat]
def gq85 : Nat → ByteArray → ByteArray → Int → List (El kk8eb) → Int → Int → Option (List (El kk27b) × Bool × Int)
 | 0, _, _, _, _, _, _ => none
 | fu + 1, b_Key, b_Value, b_At, b_Kids, above, room => gq85.F (gq85 fu) (fun y0 y1 y2 => some (y0, y1, y2)) b_Key b_Value b_At b_Kids above room
theorem gq85_nat {S : Type} (fu : Nat) (g : (List (El kk27b) × Bool × Int) → Option S) (b_Key : ByteArray) (b_Value : ByteArray) (b_At : Int) (b_Kids : List (El kk8eb)) (above : Int) (room : Int) : gq85.F (gq85 fu) (fun y0 y1 y2 => g (y0, y1, y2)) b_Key b_Value b_At b_Kids above room = (gq85 (fu + 1) b_Key b_Value b_At b_Kids above room).bind g := gq85.F_nat g (gq85 fu) (fun y0 y1 y2 => some (y0, y1, y2)) b_Key b_Value b_At b_Kids above room
def gq85.out : (List (El kk27b) × Bool × Int) → CRes := fun a => ⟨encL SV.enc [.one (.own [] kk27b true), .one (.bool)] (a.1, a.2.1, ()), [encL SC.enc [] (), encL SC.enc [] (), encL SC.enc [.int .i64] (a.2.2, ())]⟩
def gq85.ps : List PS := [.val [none, none, none, some (kk8eb, false)], .val [none], .ptr [none]]
def gq85.sA : List SA := [.v (.agg [.str, .str, .int .i64, .slv [] kk8eb]), .v (.one (.int .i64)), .ptr [.int .i64]]
def gq85.fi (fu : Nat) : FI := FIs gq85.sA (List (El kk27b) × Bool × Int) (fun t => gq85 fu t.1.1 t.1.2.1 t.1.2.2.1 t.1.2.2.2.1 t.2.1 t.2.2.1.1) gq85.out gq85.ps
def gq85.E (fu : Nat) : Env := ⟨tt, lkF [(73, i_hash.fi), (85, gq85.fi fu), (93, gq93.fi), (94, gq94.fi), (95, gq95.fi), (96, gq96.fi), (98, gq98.fi)], 75, 1, [], []⟩
def gq85.sh1 : SK := ⟨[.v (.one (.bptr 0 0)), .v (.one (.bptr 1 0)), .v (.one (.bptr 2 0)), .v (.one (.slv [1] kk8eb)), .v (.one (.int .i64)), .v (.one (.int .i64))], [.box [.int .i64], .box [.str, .str, .int .i64, .slv [1] kk8eb], .box [.slo 3], .arr kk27b [] true]⟩
def gq85.sh1e0 : SK := ⟨[.v (.one (.bptr 0 0)), .v (.one (.bptr 1 0)), .v (.one (.bptr 2 0))], [.box [.int .i64], .box [.str, .str, .int .i64, .slv [1] kk8eb], .box [.slo 3], .arr kk27b [] true]⟩
def gq85.sh1r : SK := ⟨[.v (.one (.bptr 0 0)), .v (.one (.nil)), .v (.one (.bool))], [.box [.int .i64]]⟩
def gq85.ko1 : Ex → List CastAt × List Nat
 | .nrm => ([], [])
 | .ret => ([], [2, 6, 7])
 | .ext i => cond (Nat.beq i 0) ([], [2, 3, 8]) ([], [])
def gq85.G1 (fu : Nat) (n : Nat) (R : Type) (t : gq85.sh1.T) (K : Ex → Kp → Option R) : Option R := gq85.l1 (gq85 fu) (fun y0 y1 y2 y3 y4 y5 => K (.ext 0) (SK.enc gq85.sh1e0 (((), (), (), ()), ((y0, ()), (y1, y2, y3, y4, ()), ((), ()), y5, ())))) (fun y0 y1 => K .ret (SK.enc gq85.sh1r (((), (), y0, ()), ((y1, ()), ())))) n t.1.2.2.2.1 t.1.2.2.2.2.1 t.1.2.2.2.2.2.1 t.2.1.1 t.2.2.1.1 t.2.2.1.2.1 t.2.2.1.2.2.1 t.2.2.1.2.2.2.1 t.2.2.2.2.1
def gq85.S1 (fu : Nat) : Sum := ⟨([], [2, 3, 8, 44, 45, 46]), sumF gq85.sh1 (gq85.G1 fu fuel), gq85.ko1⟩
theorem gq85.ok1 (fu : Nat) (hE : EOk Try.prog (gq85.E fu)) : SumOk Try.prog (gq85.E fu) (cB (cR (cL (cR (cR (cR (cR (bodyOf Try.f85)))))))) (gq85.S1 fu) := by
 have hh : HintOk Try.prog (gq85.E fu) (cB (cB (cR (cL (cR (cR (cR (cR (bodyOf Try.f85))))))))) (.a) := HintOk.n1 (Q := True) (by kernel_rfl) trivial
 have h := loopS (kin := ([], [2, 3, 8, 44, 45, 46])) (kout := gq85.ko1) (sh := gq85.sh1) (F := gq85.G1 fu) (ops_ok (hE.gv _)) (by kernel_rfl) hh (fun _ _ _ => rfl) (fun n R t K => by kernel_rfl) fuel
 exact HintOk.n1 (c := (cB (cR (cL (cR (cR (cR (cR (bodyOf Try.f85))))))))) (h := .s (gq85.S1 fu)) (P := Try.prog) (E := (gq85.E fu)) (by kernel_rfl) h
theorem gq85.hok (fu : Nat) (hE : EOk Try.prog (gq85.E fu)) : HintOk Try.prog (gq85.E fu) (bodyOf Try.f85) (.n (.a) (.n (.a) (.n (.a) (.n (.a) (.n (.n (.a) (.b (.s (gq85.S1 fu)))) (.a)))))) := HintOk.n1 (Q := (True) ∧ ((True) ∧ ((True) ∧ ((True) ∧ (((True) ∧ (SumOk Try.prog (gq85.E fu) (cB (cR (cL (cR (cR (cR (cR (bodyOf Try.f85)))))))) (gq85.S1 fu))) ∧ (True)))))) (by kernel_rfl) ⟨trivial, ⟨trivial, ⟨trivial, ⟨trivial, ⟨⟨trivial, (gq85.ok1 fu hE)⟩, trivial⟩⟩⟩⟩⟩
theorem gq85.fok0 : FOk Try.prog 85 (gq85.fi 0) := FOk.zero ⟨_, _, Try.func85, by kernel_rfl, rfl⟩ (fun _ => rfl)
theorem gq85.fok1 (fu : Nat) (ih : FOk Try.prog 85 (gq85.fi fu)) : FOk Try.prog 85 (gq85.fi (fu + 1)) := by
 have hE : EOk Try.prog (gq85.E fu) := EOk.of ttOk (⟨i_hash.fok, ⟨ih, ⟨gq93.fok, ⟨gq94.fok, ⟨gq95.fok, ⟨gq96.fok, ⟨gq98.fok, trivial⟩⟩⟩⟩⟩⟩⟩)
 exact fokS (E := gq85.E fu) (wy := ⟨[[some (kk27b, true)], [none]], [[], [], [none]], []⟩) (h := (fun gs => .n (.a) (.n (.a) (.n (.a) (.n (.a) (.n (.n (.a) (.b (.s (gq85.S1 fu)))) (.a))))))) (G := fun t g => gq85.F (gq85 fu) (fun y0 y1 y2 => g (y0, y1, y2)) t.1.1 t.1.2.1 t.1.2.2.1 t.1.2.2.2.1 t.2.1 t.2.2.1.1) (by kernel_rfl) hE Try.func85 (by kernel_rfl) rfl (Nat.le_refl _) (fun t => HintOk.n1 (by kernel_rfl) (gq85.hok fu hE)) (fun t g => gq85_nat fu g t.1.1 t.1.2.1 t.1.2.2.1 t.1.2.2.2.1 t.2.1 t.2.2.1.1) (fun t => by kernel_rfl)
theorem gq85.fok (fu : Nat) : FOk Try.prog 85 (gq85.fi fu) := Nat.rec gq85.fok0 gq85.fok1 fu
def gq71.F {R : Type} (kk : List (El kk27b) → Bool → Option R) (b_Key : ByteArray) (b_Value : ByteArray) (b_At : Int) (b_Kids : List (El kk8eb)) : Option R :=
 (gq75 b_Key b_Value b_At b_Kids).bind fun r =>
 cond (r) (kk [] true) (
  (gq85 fuel b_Key b_Value b_At b_Kids (-1 : Int) (40 : Int)).bind fun r1 =>
  kk r1.1 r1.2.1)
theorem gq71.F_nat {R S : Type} (g : R → Option S) (kk : List (El kk27b) → Bool → Option R) (b_Key b_Value b_At b_Kids) : gq71.F (fun y0 y1 => (kk y0 y1).bind g) b_Key b_Value b_At b_Kids = (gq71.F kk b_Key b_Value b_At b_Kids).bind g := by
 simp only [gq71.F, grd_bind, cnd_bind, bnd_bind, non_bind]
def gq71 (b_Key : ByteArray) (b_Value : ByteArray) (b_At : Int) (b_Kids : List (El kk8eb)) : Option (List (El kk27b) × Bool) := gq71.F (fun y0 y1 => some (y0, y1)) b_Key b_Value b_At b_Kids
def gq71.out : (List (El kk27b) × Bool) → CRes := fun a => ⟨encL SV.enc [.one (.own [] kk27b true), .one (.bool)] (a.1, a.2, ()), [encL SC.enc [] ()]⟩
def gq71.ps : List PS := [.val [none, none, none, some (kk8eb, false)]]
def gq71.sA : List SA := [.v (.agg [.str, .str, .int .i64, .slv [] kk8eb])]
def gq71.fi : FI := FIs gq71.sA (List (El kk27b) × Bool) (fun t => gq71 t.1.1 t.1.2.1 t.1.2.2.1 t.1.2.2.2.1) gq71.out gq71.ps
def gq71.E : Env := ⟨tt, lkF [(75, gq75.fi), (85, gq85.fi fuel)], 11, 0, [], []⟩
theorem gq71.hok (hE : EOk Try.prog (gq71.E)) : HintOk Try.prog gq71.E (bodyOf Try.f71) (.a) := HintOk.n1 (Q := True) (by kernel_rfl) trivial
theorem gq71.hE : EOk Try.prog (gq71.E) := EOk.of ttOk (⟨gq75.fok, ⟨gq85.fok fuel, trivial⟩⟩)
theorem gq71.fok : FOk Try.prog 71 gq71.fi :=
 fokS (E := gq71.E) (wy := ⟨[[some (kk27b, true)], [none]], [[]], []⟩) (h := (fun gs => .a)) (G := fun t g => gq71.F (fun y0 y1 => g (y0, y1)) t.1.1 t.1.2.1 t.1.2.2.1 t.1.2.2.2.1) (by kernel_rfl) gq71.hE Try.func71 (by kernel_rfl) rfl (Nat.le_refl _) (fun t => HintOk.n1 (by kernel_rfl) (gq71.hok gq71.hE)) (fun t g => gq71.F_nat g (fun y0 y1 => some (y0, y1)) _ _ _ _) (fun t => by kernel_rfl)
def gq50.F {R : Type} (kk : Bool → Option R) (b_Key : ByteArray) (b_Value : ByteArray) (b_At : Int) (b_Kids : List (El kk8eb)) : Option R :=
 (gq71 b_Key b_Value b_At b_Kids).bind fun r =>
 kk r.2
theorem gq50.F_nat {R S : Type} (g : R → Option S) (kk : Bool → Option R) (b_Key b_Value b_At b_Kids) : gq50.F (fun y0 => (kk y0).bind g) b_Key b_Value b_At b_Kids = (gq50.F kk b_Key b_Value b_At b_Kids).bind g := by
 simp only [gq50.F, grd_bind, cnd_bind, bnd_bind, non_bind]
def gq50 (b_Key : ByteArray) (b_Value : ByteArray) (b_At : Int) (b_Kids : List (El kk8eb)) : Option Bool := gq50.F (fun y0 => some y0) b_Key b_Value b_At b_Kids
def gq50.out : Bool → CRes := fun a => ⟨encL SV.enc [.one (.bool)] (a, ()), [encL SC.enc [] ()]⟩
def gq50.ps : List PS := [.val [none, none, none, some (kk8eb, false)]]
def gq50.sA : List SA := [.v (.agg [.str, .str, .int .i64, .slv [] kk8eb])]
def gq50.fi : FI := FIs gq50.sA (Bool) (fun t => gq50 t.1.1 t.1.2.1 t.1.2.2.1 t.1.2.2.2.1) gq50.out gq50.ps
def gq50.E : Env := ⟨tt, lkF [(71, gq71.fi)], 11, 0, [], []⟩
theorem gq50.hok (hE : EOk Try.prog (gq50.E)) : HintOk Try.prog gq50.E (bodyOf Try.f50) (.a) := HintOk.n1 (Q := True) (by kernel_rfl) trivial
theorem gq50.hE : EOk Try.prog (gq50.E) := EOk.of ttOk (⟨gq71.fok, trivial⟩)
theorem gq50.fok : FOk Try.prog 50 gq50.fi :=
 fokS (E := gq50.E) (wy := ⟨[[none]], [[]], []⟩) (h := (fun gs => .a)) (G := fun t g => gq50.F (fun y0 => g y0) t.1.1 t.1.2.1 t.1.2.2.1 t.1.2.2.2.1) (by kernel_rfl) gq50.hE Try.func50 (by kernel_rfl) rfl (Nat.le_refl _) (fun t => HintOk.n1 (by kernel_rfl) (gq50.hok gq50.hE)) (fun t g => gq50.F_nat g (fun y0 => some y0) _ _ _ _) (fun t => by kernel_rfl)
def gq51.F {R : Type} (kk : Bool → Option R) (n_ : Int) : Option R :=
 (gq34 n_ (0 : Int) (65535 : Int)).bind fun r =>
 kk r
theorem gq51.F_nat {R S : Type} (g : R → Option S) (kk : Bool → Option R) (n_) : gq51.F (fun y0 => (kk y0).bind g) n_ = (gq51.F kk n_).bind g := by
 simp only [gq51.F, grd_bind, cnd_bind, bnd_bind, non_bind]
def gq51 (n_ : Int) : Option Bool := gq51.F (fun y0 => some y0) n_
def gq51.out : Bool → CRes := fun a => ⟨encL SV.enc [.one (.bool)] (a, ()), [encL SC.enc [] ()]⟩
def gq51.ps : List PS := [.val [none]]
def gq51.sA : List SA := [.v (.one (.int .i64))]
def gq51.fi : FI := FIs gq51.sA (Bool) (fun t => gq51 t.1) gq51.out gq51.ps
def gq51.E : Env := ⟨tt, lkF [(34, gq34.fi)], 5, 0, [], []⟩
theorem gq51.hok (hE : EOk Try.prog (gq51.E)) : HintOk Try.prog gq51.E (bodyOf Try.f51) (.a) := HintOk.n1 (Q := True) (by kernel_rfl) trivial
theorem gq51.hE : EOk Try.prog (gq51.E) := EOk.of ttOk (⟨gq34.fok, trivial⟩)
theorem gq51.fok : FOk Try.prog 51 gq51.fi :=
 fokS (E := gq51.E) (wy := ⟨[[none]], [[]], []⟩) (h := (fun gs => .a)) (G := fun t g => gq51.F (fun y0 => g y0) t.1) (by kernel_rfl) gq51.hE Try.func51 (by kernel_rfl) rfl (Nat.le_refl _) (fun t => HintOk.n1 (by kernel_rfl) (gq51.hok gq51.hE)) (fun t g => gq51.F_nat g (fun y0 => some y0) _) (fun t => by kernel_rfl)
def gq52.F {R : Type} (kk : Bool → Option R) (r_Kind : Int) (r_Place : Int) (r_Value : ByteArray) : Option R :=
 (gq34 r_Kind (0 : Int) (6 : Int)).bind fun r =>
 cond (r) (
  (gq34 r_Place (0 : Int) (50 : Int)).bind fun r1 =>
  cond (r1) (
   (gq72 r_Value).bind fun r2 =>
   kk r2) (kk false)) (kk false)
theorem gq52.F_nat {R S : Type} (g : R → Option S) (kk : Bool → Option R) (r_Kind r_Place r_Value) : gq52.F (fun y0 => (kk y0).bind g) r_Kind r_Place r_Value = (gq52.F kk r_Kind r_Place r_Value).bind g := by
 simp only [gq52.F, grd_bind, cnd_bind, bnd_bind, non_bind]
def gq52 (r_Kind : Int) (r_Place : Int) (r_Value : ByteArray) : Option Bool := gq52.F (fun y0 => some y0) r_Kind r_Place r_Value
def gq52.out : Bool → CRes := fun a => ⟨encL SV.enc [.one (.bool)] (a, ()), [encL SC.enc [] ()]⟩
def gq52.ps : List PS := [.val [none, none, none]]
def gq52.sA : List SA := [.v (.agg [.int .i64, .int .i64, .str])]
def gq52.fi : FI := FIs gq52.sA (Bool) (fun t => gq52 t.1.1 t.1.2.1 t.1.2.2.1) gq52.out gq52.ps
def gq52.E : Env := ⟨tt, lkF [(34, gq34.fi), (72, gq72.fi)], 16, 0, [], []⟩
theorem gq52.hok (hE : EOk Try.prog (gq52.E)) : HintOk Try.prog gq52.E (bodyOf Try.f52) (.a) := HintOk.n1 (Q := True) (by kernel_rfl) trivial
theorem gq52.hE : EOk Try.prog (gq52.E) := EOk.of ttOk (⟨gq34.fok, ⟨gq72.fok, trivial⟩⟩)
theorem gq52.fok : FOk Try.prog 52 gq52.fi :=
 fokS (E := gq52.E) (wy := ⟨[[none]], [[]], []⟩) (h := (fun gs => .a)) (G := fun t g => gq52.F (fun y0 => g y0) t.1.1 t.1.2.1 t.1.2.2.1) (by kernel_rfl) gq52.hE Try.func52 (by kernel_rfl) rfl (Nat.le_refl _) (fun t => HintOk.n1 (by kernel_rfl) (gq52.hok gq52.hE)) (fun t g => gq52.F_nat g (fun y0 => some y0) _ _ _) (fun t => by kernel_rfl)
def gq28.l1 {R : Type} (kke0 : Option R) (kkr : Bool → Option R) : Nat → List (El kkb2) → Int → Int → List ByteArray → ByteArray → ByteArray → Int → List (El kk8eb) → List (El kkb2) → Option R
 | 0, _, _, _, _, _, _, _, _, _ => none
 | n + 1, l, i, i1, l1, l2, l3, l4, l5, l6 =>
  cond (decide (i1 < i)) (
   grd (gIx i1 (List.length l)) <|
   (gq51 ((rdE kkb2 l (Int.toNat i1)).1)).bind fun r =>
   cond (!r) (kkr false) (
    (gq51 ((rdE kkb2 l (Int.toNat i1)).2.1)).bind fun r1 =>
    cond (!r1) (kkr false) (
     (gq52 ((rdE kkb2 l (Int.toNat i1)).2.2.1) ((rdE kkb2 l (Int.toNat i1)).2.2.2.1) ((rdE kkb2 l (Int.toNat i1)).2.2.2.2)).bind fun r2 =>
     cond (!r2) (kkr false) (
      cond (decide (i1 > (0 : Int))) (
       grd (gIx (IntKind.wrap .i64 (i1 - (1 : Int))) (List.length l6)) <|
       cond (decide ((rdE kkb2 l6 (Int.toNat (IntKind.wrap .i64 (i1 - (1 : Int))))).1 ≥ (rdE kkb2 l (Int.toNat i1)).1)) (kkr false) (gq28.l1 kke0 kkr n l i (IntKind.wrap .i64 (i1 + (1 : Int))) l1 l2 l3 l4 l5 l6)) (gq28.l1 kke0 kkr n l i (IntKind.wrap .i64 (i1 + (1 : Int))) l1 l2 l3 l4 l5 l6))))) (kke0)
theorem gq28.l1_nat {R S : Type} (g : R → Option S) (kke0 : Option R) (kkr : Bool → Option R) : ∀ n l i i1 l1 l2 l3 l4 l5 l6, gq28.l1 (kke0.bind g) (fun y0 => (kkr y0).bind g) n l i i1 l1 l2 l3 l4 l5 l6 = (gq28.l1 kke0 kkr n l i i1 l1 l2 l3 l4 l5 l6).bind g := by
 intro n
 induction n with
 | zero => intros; rfl
 | succ n ih => intros; simp only [gq28.l1, grd_bind, cnd_bind, bnd_bind, non_bind, ih]
def gq28.F {R : Type} (kk : Bool → Option R) (l_Leaves : List ByteArray) (l_Map_Key : ByteArray) (l_Map_Value : ByteArray) (l_Map_At : Int) (l_Map_Kids : List (El kk8eb)) (l_Sessions : List (El kkb2)) : Option R :=
 cond (decide ((List.length l_Leaves : Int) > (50 : Int))) (kk false) (
  (gq49 l_Leaves).bind fun r =>
  cond (!r) (kk false) (
   cond (decide ((List.length l_Sessions : Int) > (8 : Int))) (kk false) (
    (gq50 l_Map_Key l_Map_Value l_Map_At l_Map_Kids).bind fun r1 =>
    cond (!r1) (kk false) (
     gq28.l1 (kk true) (fun b => kk b) fuel l_Sessions (List.length l_Sessions : Int) (0 : Int) l_Leaves l_Map_Key l_Map_Value l_Map_At l_Map_Kids l_Sessions))))
theorem gq28.F_nat {R S : Type} (g : R → Option S) (kk : Bool → Option R) (l_Leaves l_Map_Key l_Map_Value l_Map_At l_Map_Kids l_Sessions) : gq28.F (fun y0 => (kk y0).bind g) l_Leaves l_Map_Key l_Map_Value l_Map_At l_Map_Kids l_Sessions = (gq28.F kk l_Leaves l_Map_Key l_Map_Value l_Map_At l_Map_Kids l_Sessions).bind g := by
 simp only [gq28.F, grd_bind, cnd_bind, bnd_bind, non_bind, ← gq28.l1_nat]
def gq28 (l_Leaves : List ByteArray) (l_Map_Key : ByteArray) (l_Map_Value : ByteArray) (l_Map_At : Int) (l_Map_Kids : List (El kk8eb)) (l_Sessions : List (El kkb2)) : Option Bool := gq28.F (fun y0 => some y0) l_Leaves l_Map_Key l_Map_Value l_Map_At l_Map_Kids l_Sessions
def gq28.out : Bool → CRes := fun a => ⟨encL SV.enc [.one (.bool)] (a, ()), [encL SC.enc [] ()]⟩
def gq28.ps : List PS := [.val [some (.str, false), none, none, none, some (kk8eb, false), some (kkb2, false)]]
def gq28.sA : List SA := [.v (.agg [.slv [] .str, .str, .str, .int .i64, .slv [] kk8eb, .slv [] kkb2])]
def gq28.fi : FI := FIs gq28.sA (Bool) (fun t => gq28 t.1.1 t.1.2.1 t.1.2.2.1 t.1.2.2.2.1 t.1.2.2.2.2.1 t.1.2.2.2.2.2.1) gq28.out gq28.ps
def gq28.E : Env := ⟨tt, lkF [(49, gq49.fi), (50, gq50.fi), (51, gq51.fi), (52, gq52.fi)], 68, 0, [], []⟩
def gq28.sh1 : SK := ⟨[.v (.one (.bptr 0 0)), .v (.one (.slv [1] kkb2)), .v (.one (.int .i64)), .v (.one (.int .i64))], [.box [.slv [1] .str, .str, .str, .int .i64, .slv [1] kk8eb, .slv [1] kkb2]]⟩
def gq28.sh1e0 : SK := ⟨[], []⟩
def gq28.sh1r : SK := ⟨[.v (.one (.bool))], []⟩
def gq28.ko1 : Ex → List CastAt × List Nat
 | .nrm => ([], [])
 | .ret => ([], [2])
 | .ext i => cond (Nat.beq i 0) ([], []) ([], [])
def gq28.G1 (n : Nat) (R : Type) (t : gq28.sh1.T) (K : Ex → Kp → Option R) : Option R := gq28.l1 (K (.ext 0) (SK.enc gq28.sh1e0 ((), ()))) (fun y0 => K .ret (SK.enc gq28.sh1r ((y0, ()), ()))) n t.1.2.1 t.1.2.2.1 t.1.2.2.2.1 t.2.1.1 t.2.1.2.1 t.2.1.2.2.1 t.2.1.2.2.2.1 t.2.1.2.2.2.2.1 t.2.1.2.2.2.2.2.1
def gq28.S1 : Sum := ⟨([], [1, 28, 29, 30]), sumF gq28.sh1 (gq28.G1 fuel), gq28.ko1⟩
theorem gq28.ok1 (hE : EOk Try.prog (gq28.E)) : SumOk Try.prog gq28.E (cB (cR (cL (cR (cR (bodyOf Try.f28)))))) (gq28.S1) := by
 have hh : HintOk Try.prog gq28.E (cB (cB (cR (cL (cR (cR (bodyOf Try.f28))))))) (.a) := HintOk.n1 (Q := True) (by kernel_rfl) trivial
 have h := loopS (kin := ([], [1, 28, 29, 30])) (kout := gq28.ko1) (sh := gq28.sh1) (F := gq28.G1) (ops_ok (hE.gv _)) (by kernel_rfl) hh (fun _ _ _ => rfl) (fun n R t K => by kernel_rfl) fuel
 exact HintOk.n1 (c := (cB (cR (cL (cR (cR (bodyOf Try.f28))))))) (h := .s (gq28.S1)) (P := Try.prog) (E := gq28.E) (by kernel_rfl) h
theorem gq28.hok (hE : EOk Try.prog (gq28.E)) : HintOk Try.prog gq28.E (bodyOf Try.f28) (.n (.a) (.n (.a) (.n (.n (.a) (.b (.s (gq28.S1)))) (.a)))) := HintOk.n1 (Q := (True) ∧ ((True) ∧ (((True) ∧ (SumOk Try.prog gq28.E (cB (cR (cL (cR (cR (bodyOf Try.f28)))))) (gq28.S1))) ∧ (True)))) (by kernel_rfl) ⟨trivial, ⟨trivial, ⟨⟨trivial, (gq28.ok1 hE)⟩, trivial⟩⟩⟩
theorem gq28.hE : EOk Try.prog (gq28.E) := EOk.of ttOk (⟨gq49.fok, ⟨gq50.fok, ⟨gq51.fok, ⟨gq52.fok, trivial⟩⟩⟩⟩)
theorem gq28.fok : FOk Try.prog 28 gq28.fi :=
 fokS (E := gq28.E) (wy := ⟨[[none]], [[]], []⟩) (h := (fun gs => .n (.a) (.n (.a) (.n (.n (.a) (.b (.s (gq28.S1)))) (.a))))) (G := fun t g => gq28.F (fun y0 => g y0) t.1.1 t.1.2.1 t.1.2.2.1 t.1.2.2.2.1 t.1.2.2.2.2.1 t.1.2.2.2.2.2.1) (by kernel_rfl) gq28.hE Try.func28 (by kernel_rfl) rfl (Nat.le_refl _) (fun t => HintOk.n1 (by kernel_rfl) (gq28.hok gq28.hE)) (fun t g => gq28.F_nat g (fun y0 => some y0) _ _ _ _ _ _) (fun t => by kernel_rfl)
def gq58.l1 {R : Type} (kke0 : Int → Option R) : Nat → Int → Int → Option R
 | 0, _, _ => none
 | n + 1, n_, k_ =>
  cond (decide ((IntKind.wrap .i64 ((2 : Int) * k_)) < n_)) (gq58.l1 kke0 n n_ (IntKind.wrap .i64 (k_ * (2 : Int)))) (kke0 k_)
theorem gq58.l1_nat {R S : Type} (g : R → Option S) (kke0 : Int → Option R) : ∀ n n_ k_, gq58.l1 (fun y0 => (kke0 y0).bind g) n n_ k_ = (gq58.l1 kke0 n n_ k_).bind g := by
 intro n
 induction n with
 | zero => intros; rfl
 | succ n ih => intros; simp only [gq58.l1, grd_bind, cnd_bind, bnd_bind, non_bind, ih]
def gq58.F {R : Type} (kk : Int → Option R) (n_ : Int) : Option R :=
 gq58.l1 (fun k_ => kk k_) fuel n_ (1 : Int)
theorem gq58.F_nat {R S : Type} (g : R → Option S) (kk : Int → Option R) (n_) : gq58.F (fun y0 => (kk y0).bind g) n_ = (gq58.F kk n_).bind g := by
 simp only [gq58.F, grd_bind, cnd_bind, bnd_bind, non_bind, ← gq58.l1_nat]
def gq58 (n_ : Int) : Option Int := gq58.F (fun y0 => some y0) n_
def gq58.out : Int → CRes := fun a => ⟨encL SV.enc [.one (.int .i64)] (a, ()), [encL SC.enc [] ()]⟩
def gq58.ps : List PS := [.val [none]]
def gq58.sA : List SA := [.v (.one (.int .i64))]
def gq58.fi : FI := FIs gq58.sA (Int) (fun t => gq58 t.1) gq58.out gq58.ps
def gq58.E : Env := ⟨tt, lkF [], 11, 0, [], []⟩
def gq58.sh1 : SK := ⟨[.v (.one (.int .i64)), .v (.one (.int .i64))], []⟩
def gq58.sh1e0 : SK := ⟨[.v (.one (.int .i64))], []⟩
def gq58.ko1 : Ex → List CastAt × List Nat
 | .nrm => ([], [])
 | .ret => ([], [])
 | .ext i => cond (Nat.beq i 0) ([], [3]) ([], [])
def gq58.G1 (n : Nat) (R : Type) (t : gq58.sh1.T) (K : Ex → Kp → Option R) : Option R := gq58.l1 (fun y0 => K (.ext 0) (SK.enc gq58.sh1e0 ((y0, ()), ()))) n t.1.1 t.1.2.1
def gq58.S1 : Sum := ⟨([], [0, 3]), sumF gq58.sh1 (gq58.G1 fuel), gq58.ko1⟩
theorem gq58.ok1 (hE : EOk Try.prog (gq58.E)) : SumOk Try.prog gq58.E (cB (cL (cR (cR (bodyOf Try.f58))))) (gq58.S1) := by
 have hh : HintOk Try.prog gq58.E (cB (cB (cL (cR (cR (bodyOf Try.f58)))))) (.a) := HintOk.n1 (Q := True) (by kernel_rfl) trivial
 have h := loopS (kin := ([], [0, 3])) (kout := gq58.ko1) (sh := gq58.sh1) (F := gq58.G1) (ops_ok (hE.gv _)) (by kernel_rfl) hh (fun _ _ _ => rfl) (fun n R t K => by kernel_rfl) fuel
 exact HintOk.n1 (c := (cB (cL (cR (cR (bodyOf Try.f58)))))) (h := .s (gq58.S1)) (P := Try.prog) (E := gq58.E) (by kernel_rfl) h
theorem gq58.hok (hE : EOk Try.prog (gq58.E)) : HintOk Try.prog gq58.E (bodyOf Try.f58) (.n (.a) (.n (.a) (.n (.b (.s (gq58.S1))) (.a)))) := HintOk.n1 (Q := (True) ∧ ((True) ∧ ((SumOk Try.prog gq58.E (cB (cL (cR (cR (bodyOf Try.f58))))) (gq58.S1)) ∧ (True)))) (by kernel_rfl) ⟨trivial, ⟨trivial, ⟨(gq58.ok1 hE), trivial⟩⟩⟩
theorem gq58.hE : EOk Try.prog (gq58.E) := EOk.of ttOk (trivial)
theorem gq58.fok : FOk Try.prog 58 gq58.fi :=
 fokS (E := gq58.E) (wy := ⟨[[none]], [[]], []⟩) (h := (fun gs => .n (.a) (.n (.a) (.n (.b (.s (gq58.S1))) (.a))))) (G := fun t g => gq58.F (fun y0 => g y0) t.1) (by kernel_rfl) gq58.hE Try.func58 (by kernel_rfl) rfl (Nat.le_refl _) (fun t => HintOk.n1 (by kernel_rfl) (gq58.hok gq58.hE)) (fun t g => gq58.F_nat g (fun y0 => some y0) _) (fun t => by kernel_rfl)
def gq74.F {R : Type} (kk : ByteArray → Option R) (left : ByteArray) (right : ByteArray) : Option R :=
 grd (gCat (⟨#[1]⟩ : ByteArray) left) <|
 grd (gCat ((⟨#[1]⟩ : ByteArray) ++ left) right) <|
 (i_hash (((⟨#[1]⟩ : ByteArray) ++ left) ++ right)).bind fun r =>
 kk r
theorem gq74.F_nat {R S : Type} (g : R → Option S) (kk : ByteArray → Option R) (left right) : gq74.F (fun y0 => (kk y0).bind g) left right = (gq74.F kk left right).bind g := by
 simp only [gq74.F, grd_bind, cnd_bind, bnd_bind, non_bind]
def gq74 (left : ByteArray) (right : ByteArray) : Option ByteArray := gq74.F (fun y0 => some y0) left right
def gq74.out : ByteArray → CRes := fun a => ⟨encL SV.enc [.one (.str)] (a, ()), [encL SC.enc [] (), encL SC.enc [] ()]⟩
def gq74.ps : List PS := [.val [none], .val [none]]
def gq74.sA : List SA := [.v (.one (.str)), .v (.one (.str))]
def gq74.fi : FI := FIs gq74.sA (ByteArray) (fun t => gq74 t.1 t.2.1) gq74.out gq74.ps
def gq74.E : Env := ⟨tt, lkF [(73, i_hash.fi)], 10, 0, [], []⟩
theorem gq74.hok (hE : EOk Try.prog (gq74.E)) : HintOk Try.prog gq74.E (bodyOf Try.f74) (.a) := HintOk.n1 (Q := True) (by kernel_rfl) trivial
theorem gq74.hE : EOk Try.prog (gq74.E) := EOk.of ttOk (⟨i_hash.fok, trivial⟩)
theorem gq74.fok : FOk Try.prog 74 gq74.fi :=
 fokS (E := gq74.E) (wy := ⟨[[none]], [[], []], []⟩) (h := (fun gs => .a)) (G := fun t g => gq74.F (fun y0 => g y0) t.1 t.2.1) (by kernel_rfl) gq74.hE Try.func74 (by kernel_rfl) rfl (Nat.le_refl _) (fun t => HintOk.n1 (by kernel_rfl) (gq74.hok gq74.hE)) (fun t g => gq74.F_nat g (fun y0 => some y0) _ _) (fun t => by kernel_rfl)
def gq53.F {R : Type} (rc : List ByteArray → Option ByteArray) (kk : ByteArray → Option R) (leaves : List ByteArray) : Option R :=
 cond ((List.length leaves : Int) == (0 : Int)) (
  (i_hash ByteArray.empty).bind fun r =>
  kk r) (
  cond ((List.length leaves : Int) == (1 : Int)) (
   grd (gIx (0 : Int) (List.length leaves)) <|
   kk (rdE (.str : Kd) leaves (Int.toNat (0 : Int)))) (
   (gq58 (List.length leaves : Int)).bind fun r1 =>
   grd (gSl (0 : Int) r1 (List.length leaves)) <|
   (rc (sub leaves (0 : Int) r1)).bind fun r2 =>
   grd (gSl r1 (List.length leaves : Int) (List.length leaves)) <|
   (rc (sub leaves r1 (List.length leaves : Int))).bind fun r3 =>
   (gq74 r2 r3).bind fun r4 =>
   kk r4))
theorem gq53.F_nat {R S : Type} (g : R → Option S) (rc : List ByteArray → Option ByteArray) (kk : ByteArray → Option R) (leaves) : gq53.F rc (fun y0 => (kk y0).bind g) leaves = (gq53.F rc kk leaves).bind g := by
 simp only [gq53.F, grd_bind, cnd_bind, bnd_bind, non_bind]
def gq53 : Nat → List ByteArray → Option ByteArray
 | 0, _ => none
 | fu + 1, leaves => gq53.F (gq53 fu) (fun y0 => some y0) leaves
theorem gq53_nat {S : Type} (fu : Nat) (g : ByteArray → Option S) (leaves : List ByteArray) : gq53.F (gq53 fu) (fun y0 => g y0) leaves = (gq53 (fu + 1) leaves).bind g := gq53.F_nat g (gq53 fu) (fun y0 => some y0) leaves
def gq53.out : ByteArray → CRes := fun a => ⟨encL SV.enc [.one (.str)] (a, ()), [encL SC.enc [] ()]⟩
def gq53.ps : List PS := [.val [some (.str, false)]]
def gq53.sA : List SA := [.v (.one (.slv [] .str))]
def gq53.fi (fu : Nat) : FI := FIs gq53.sA (ByteArray) (fun t => gq53 fu t.1) gq53.out gq53.ps
def gq53.E (fu : Nat) : Env := ⟨tt, lkF [(53, gq53.fi fu), (58, gq58.fi), (73, i_hash.fi), (74, gq74.fi)], 26, 0, [], []⟩
theorem gq53.hok (fu : Nat) (hE : EOk Try.prog (gq53.E fu)) : HintOk Try.prog (gq53.E fu) (bodyOf Try.f53) (.a) := HintOk.n1 (Q := True) (by kernel_rfl) trivial
theorem gq53.fok0 : FOk Try.prog 53 (gq53.fi 0) := FOk.zero ⟨_, _, Try.func53, by kernel_rfl, rfl⟩ (fun _ => rfl)
theorem gq53.fok1 (fu : Nat) (ih : FOk Try.prog 53 (gq53.fi fu)) : FOk Try.prog 53 (gq53.fi (fu + 1)) := by
 have hE : EOk Try.prog (gq53.E fu) := EOk.of ttOk (⟨ih, ⟨gq58.fok, ⟨i_hash.fok, ⟨gq74.fok, trivial⟩⟩⟩⟩)
 exact fokS (E := gq53.E fu) (wy := ⟨[[none]], [[]], []⟩) (h := (fun gs => .a)) (G := fun t g => gq53.F (gq53 fu) (fun y0 => g y0) t.1) (by kernel_rfl) hE Try.func53 (by kernel_rfl) rfl (Nat.le_refl _) (fun t => HintOk.n1 (by kernel_rfl) (gq53.hok fu hE)) (fun t g => gq53_nat fu g t.1) (fun t => by kernel_rfl)
theorem gq53.fok (fu : Nat) : FOk Try.prog 53 (gq53.fi fu) := Nat.rec gq53.fok0 gq53.fok1 fu
def gq91.F {R : Type} (kk : ByteArray → Option R) (t_ : ByteArray) : Option R :=
 (gq87 (ByteArray.size t_ : Int) (1 : Int)).bind fun r =>
 grd (gCat r t_) <|
 kk (r ++ t_)
theorem gq91.F_nat {R S : Type} (g : R → Option S) (kk : ByteArray → Option R) (t_) : gq91.F (fun y0 => (kk y0).bind g) t_ = (gq91.F kk t_).bind g := by
 simp only [gq91.F, grd_bind, cnd_bind, bnd_bind, non_bind]
def gq91 (t_ : ByteArray) : Option ByteArray := gq91.F (fun y0 => some y0) t_
def gq91.out : ByteArray → CRes := fun a => ⟨encL SV.enc [.one (.str)] (a, ()), [encL SC.enc [] ()]⟩
def gq91.ps : List PS := [.val [none]]
def gq91.sA : List SA := [.v (.one (.str))]
def gq91.fi : FI := FIs gq91.sA (ByteArray) (fun t => gq91 t.1) gq91.out gq91.ps
def gq91.E : Env := ⟨tt, lkF [(87, gq87.fi)], 8, 0, [], []⟩
theorem gq91.hok (hE : EOk Try.prog (gq91.E)) : HintOk Try.prog gq91.E (bodyOf Try.f91) (.a) := HintOk.n1 (Q := True) (by kernel_rfl) trivial
theorem gq91.hE : EOk Try.prog (gq91.E) := EOk.of ttOk (⟨gq87.fok, trivial⟩)
theorem gq91.fok : FOk Try.prog 91 gq91.fi :=
 fokS (E := gq91.E) (wy := ⟨[[none]], [[]], []⟩) (h := (fun gs => .a)) (G := fun t g => gq91.F (fun y0 => g y0) t.1) (by kernel_rfl) gq91.hE Try.func91 (by kernel_rfl) rfl (Nat.le_refl _) (fun t => HintOk.n1 (by kernel_rfl) (gq91.hok gq91.hE)) (fun t g => gq91.F_nat g (fun y0 => some y0) _) (fun t => by kernel_rfl)
def gq76.F {R : Type} (kk : ByteArray → Option R) (key : ByteArray) (value : ByteArray) : Option R :=
 (gq91 key).bind fun r =>
 grd (gCat (⟨#[0]⟩ : ByteArray) r) <|
 grd (gCat ((⟨#[0]⟩ : ByteArray) ++ r) value) <|
 (i_hash (((⟨#[0]⟩ : ByteArray) ++ r) ++ value)).bind fun r1 =>
 kk r1
theorem gq76.F_nat {R S : Type} (g : R → Option S) (kk : ByteArray → Option R) (key value) : gq76.F (fun y0 => (kk y0).bind g) key value = (gq76.F kk key value).bind g := by
 simp only [gq76.F, grd_bind, cnd_bind, bnd_bind, non_bind]
def gq76 (key : ByteArray) (value : ByteArray) : Option ByteArray := gq76.F (fun y0 => some y0) key value
def gq76.out : ByteArray → CRes := fun a => ⟨encL SV.enc [.one (.str)] (a, ()), [encL SC.enc [] (), encL SC.enc [] ()]⟩
def gq76.ps : List PS := [.val [none], .val [none]]
def gq76.sA : List SA := [.v (.one (.str)), .v (.one (.str))]
def gq76.fi : FI := FIs gq76.sA (ByteArray) (fun t => gq76 t.1 t.2.1) gq76.out gq76.ps
def gq76.E : Env := ⟨tt, lkF [(73, i_hash.fi), (91, gq91.fi)], 11, 0, [], []⟩
theorem gq76.hok (hE : EOk Try.prog (gq76.E)) : HintOk Try.prog gq76.E (bodyOf Try.f76) (.a) := HintOk.n1 (Q := True) (by kernel_rfl) trivial
theorem gq76.hE : EOk Try.prog (gq76.E) := EOk.of ttOk (⟨i_hash.fok, ⟨gq91.fok, trivial⟩⟩)
theorem gq76.fok : FOk Try.prog 76 gq76.fi :=
 fokS (E := gq76.E) (wy := ⟨[[none]], [[], []], []⟩) (h := (fun gs => .a)) (G := fun t g => gq76.F (fun y0 => g y0) t.1 t.2.1) (by kernel_rfl) gq76.hE Try.func76 (by kernel_rfl) rfl (Nat.le_refl _) (fun t => HintOk.n1 (by kernel_rfl) (gq76.hok gq76.hE)) (fun t g => gq76.F_nat g (fun y0 => some y0) _ _) (fun t => by kernel_rfl)
def gq77.F {R : Type} (kk : ByteArray → Option R) (at_ : Int) (first : ByteArray) (second : ByteArray) : Option R :=
 (gq87 at_ (1 : Int)).bind fun r =>
 grd (gCat (⟨#[1]⟩ : ByteArray) r) <|
 grd (gCat ((⟨#[1]⟩ : ByteArray) ++ r) first) <|
 grd (gCat (((⟨#[1]⟩ : ByteArray) ++ r) ++ first) second) <|
 (i_hash ((((⟨#[1]⟩ : ByteArray) ++ r) ++ first) ++ second)).bind fun r1 =>
 kk r1
theorem gq77.F_nat {R S : Type} (g : R → Option S) (kk : ByteArray → Option R) (at_ first second) : gq77.F (fun y0 => (kk y0).bind g) at_ first second = (gq77.F kk at_ first second).bind g := by
 simp only [gq77.F, grd_bind, cnd_bind, bnd_bind, non_bind]
def gq77 (at_ : Int) (first : ByteArray) (second : ByteArray) : Option ByteArray := gq77.F (fun y0 => some y0) at_ first second
def gq77.out : ByteArray → CRes := fun a => ⟨encL SV.enc [.one (.str)] (a, ()), [encL SC.enc [] (), encL SC.enc [] (), encL SC.enc [] ()]⟩
def gq77.ps : List PS := [.val [none], .val [none], .val [none]]
def gq77.sA : List SA := [.v (.one (.int .i64)), .v (.one (.str)), .v (.one (.str))]
def gq77.fi : FI := FIs gq77.sA (ByteArray) (fun t => gq77 t.1 t.2.1 t.2.2.1) gq77.out gq77.ps
def gq77.E : Env := ⟨tt, lkF [(73, i_hash.fi), (87, gq87.fi)], 15, 0, [], []⟩
theorem gq77.hok (hE : EOk Try.prog (gq77.E)) : HintOk Try.prog gq77.E (bodyOf Try.f77) (.a) := HintOk.n1 (Q := True) (by kernel_rfl) trivial
theorem gq77.hE : EOk Try.prog (gq77.E) := EOk.of ttOk (⟨i_hash.fok, ⟨gq87.fok, trivial⟩⟩)
theorem gq77.fok : FOk Try.prog 77 gq77.fi :=
 fokS (E := gq77.E) (wy := ⟨[[none]], [[], [], []], []⟩) (h := (fun gs => .a)) (G := fun t g => gq77.F (fun y0 => g y0) t.1 t.2.1 t.2.2.1) (by kernel_rfl) gq77.hE Try.func77 (by kernel_rfl) rfl (Nat.le_refl _) (fun t => HintOk.n1 (by kernel_rfl) (gq77.hok gq77.hE)) (fun t g => gq77.F_nat g (fun y0 => some y0) _ _ _) (fun t => by kernel_rfl)
def gq54.F {R : Type} (rc : ByteArray → ByteArray → Int → List (El kk8eb) → Option ByteArray) (kk : ByteArray → Option R) (b_Key : ByteArray) (b_Value : ByteArray) (b_At : Int) (b_Kids : List (El kk8eb)) : Option R :=
 (gq75 b_Key b_Value b_At b_Kids).bind fun r =>
 cond (r) (
  (i_hash (⟨#[2]⟩ : ByteArray)).bind fun r1 =>
  kk r1) (
  cond (b_At == (256 : Int)) (
   (gq76 b_Key b_Value).bind fun r2 =>
   kk r2) (
   grd (gIx (0 : Int) (List.length b_Kids)) <|
   (rc ((Tree.val (rdE kk8eb b_Kids (Int.toNat (0 : Int)))).1) ((Tree.val (rdE kk8eb b_Kids (Int.toNat (0 : Int)))).2.1) ((Tree.val (rdE kk8eb b_Kids (Int.toNat (0 : Int)))).2.2) (Tree.kids (rdE kk8eb b_Kids (Int.toNat (0 : Int))))).bind fun r3 =>
   grd (gIx (1 : Int) (List.length b_Kids)) <|
   (rc ((Tree.val (rdE kk8eb b_Kids (Int.toNat (1 : Int)))).1) ((Tree.val (rdE kk8eb b_Kids (Int.toNat (1 : Int)))).2.1) ((Tree.val (rdE kk8eb b_Kids (Int.toNat (1 : Int)))).2.2) (Tree.kids (rdE kk8eb b_Kids (Int.toNat (1 : Int))))).bind fun r4 =>
   (gq77 b_At r3 r4).bind fun r5 =>
   kk r5))
theorem gq54.F_nat {R S : Type} (g : R → Option S) (rc : ByteArray → ByteArray → Int → List (El kk8eb) → Option ByteArray) (kk : ByteArray → Option R) (b_Key b_Value b_At b_Kids) : gq54.F rc (fun y0 => (kk y0).bind g) b_Key b_Value b_At b_Kids = (gq54.F rc kk b_Key b_Value b_At b_Kids).bind g := by
 simp only [gq54.F, grd_bind, cnd_bind, bnd_bind, non_bind]
def gq54 : Nat → ByteArray → ByteArray → Int → List (El kk8eb) → Option ByteArray
 | 0, _, _, _, _ => none
 | fu + 1, b_Key, b_Value, b_At, b_Kids => gq54.F (gq54 fu) (fun y0 => some y0) b_Key b_Value b_At b_Kids
theorem gq54_nat {S : Type} (fu : Nat) (g : ByteArray → Option S) (b_Key : ByteArray) (b_Value : ByteArray) (b_At : Int) (b_Kids : List (El kk8eb)) : gq54.F (gq54 fu) (fun y0 => g y0) b_Key b_Value b_At b_Kids = (gq54 (fu + 1) b_Key b_Value b_At b_Kids).bind g := gq54.F_nat g (gq54 fu) (fun y0 => some y0) b_Key b_Value b_At b_Kids
def gq54.out : ByteArray → CRes := fun a => ⟨encL SV.enc [.one (.str)] (a, ()), [encL SC.enc [] ()]⟩
def gq54.ps : List PS := [.val [none, none, none, some (kk8eb, false)]]
def gq54.sA : List SA := [.v (.agg [.str, .str, .int .i64, .slv [] kk8eb])]
def gq54.fi (fu : Nat) : FI := FIs gq54.sA (ByteArray) (fun t => gq54 fu t.1.1 t.1.2.1 t.1.2.2.1 t.1.2.2.2.1) gq54.out gq54.ps
def gq54.E (fu : Nat) : Env := ⟨tt, lkF [(54, gq54.fi fu), (73, i_hash.fi), (75, gq75.fi), (76, gq76.fi), (77, gq77.fi)], 29, 0, [], []⟩
theorem gq54.hok (fu : Nat) (hE : EOk Try.prog (gq54.E fu)) : HintOk Try.prog (gq54.E fu) (bodyOf Try.f54) (.a) := HintOk.n1 (Q := True) (by kernel_rfl) trivial
theorem gq54.fok0 : FOk Try.prog 54 (gq54.fi 0) := FOk.zero ⟨_, _, Try.func54, by kernel_rfl, rfl⟩ (fun _ => rfl)
theorem gq54.fok1 (fu : Nat) (ih : FOk Try.prog 54 (gq54.fi fu)) : FOk Try.prog 54 (gq54.fi (fu + 1)) := by
 have hE : EOk Try.prog (gq54.E fu) := EOk.of ttOk (⟨ih, ⟨i_hash.fok, ⟨gq75.fok, ⟨gq76.fok, ⟨gq77.fok, trivial⟩⟩⟩⟩⟩)
 exact fokS (E := gq54.E fu) (wy := ⟨[[none]], [[]], []⟩) (h := (fun gs => .a)) (G := fun t g => gq54.F (gq54 fu) (fun y0 => g y0) t.1.1 t.1.2.1 t.1.2.2.1 t.1.2.2.2.1) (by kernel_rfl) hE Try.func54 (by kernel_rfl) rfl (Nat.le_refl _) (fun t => HintOk.n1 (by kernel_rfl) (gq54.hok fu hE)) (fun t g => gq54_nat fu g t.1.1 t.1.2.1 t.1.2.2.1 t.1.2.2.2.1) (fun t => by kernel_rfl)
theorem gq54.fok (fu : Nat) : FOk Try.prog 54 (gq54.fi fu) := Nat.rec gq54.fok0 gq54.fok1 fu
def gq29.F {R : Type} (kk : Int → ByteArray → ByteArray → Option R) (l_Leaves : List ByteArray) (l_Map_Key : ByteArray) (l_Map_Value : ByteArray) (l_Map_At : Int) (l_Map_Kids : List (El kk8eb)) (l_Sessions : List (El kkb2)) : Option R :=
 (gq53 fuel l_Leaves).bind fun r =>
 (gq54 fuel l_Map_Key l_Map_Value l_Map_At l_Map_Kids).bind fun r1 =>
 kk (List.length l_Leaves : Int) r r1
theorem gq29.F_nat {R S : Type} (g : R → Option S) (kk : Int → ByteArray → ByteArray → Option R) (l_Leaves l_Map_Key l_Map_Value l_Map_At l_Map_Kids l_Sessions) : gq29.F (fun y0 y1 y2 => (kk y0 y1 y2).bind g) l_Leaves l_Map_Key l_Map_Value l_Map_At l_Map_Kids l_Sessions = (gq29.F kk l_Leaves l_Map_Key l_Map_Value l_Map_At l_Map_Kids l_Sessions).bind g := by
 simp only [gq29.F, grd_bind, cnd_bind, bnd_bind, non_bind]
def gq29 (l_Leaves : List ByteArray) (l_Map_Key : ByteArray) (l_Map_Value : ByteArray) (l_Map_At : Int) (l_Map_Kids : List (El kk8eb)) (l_Sessions : List (El kkb2)) : Option (Int × ByteArray × ByteArray) := gq29.F (fun y0 y1 y2 => some (y0, y1, y2)) l_Leaves l_Map_Key l_Map_Value l_Map_At l_Map_Kids l_Sessions
def gq29.out : (Int × ByteArray × ByteArray) → CRes := fun a => ⟨encL SV.enc [.agg [.int .i64, .str, .str]] ((a.1, a.2.1, a.2.2, ()), ()), [encL SC.enc [] ()]⟩
def gq29.ps : List PS := [.val [some (.str, false), none, none, none, some (kk8eb, false), some (kkb2, false)]]
def gq29.sA : List SA := [.v (.agg [.slv [] .str, .str, .str, .int .i64, .slv [] kk8eb, .slv [] kkb2])]
def gq29.fi : FI := FIs gq29.sA (Int × ByteArray × ByteArray) (fun t => gq29 t.1.1 t.1.2.1 t.1.2.2.1 t.1.2.2.2.1 t.1.2.2.2.2.1 t.1.2.2.2.2.2.1) gq29.out gq29.ps
def gq29.E : Env := ⟨tt, lkF [(53, gq53.fi fuel), (54, gq54.fi fuel)], 13, 0, [], []⟩
theorem gq29.hok (hE : EOk Try.prog (gq29.E)) : HintOk Try.prog gq29.E (bodyOf Try.f29) (.a) := HintOk.n1 (Q := True) (by kernel_rfl) trivial
theorem gq29.hE : EOk Try.prog (gq29.E) := EOk.of ttOk (⟨gq53.fok fuel, ⟨gq54.fok fuel, trivial⟩⟩)
theorem gq29.fok : FOk Try.prog 29 gq29.fi :=
 fokS (E := gq29.E) (wy := ⟨[[none, none, none]], [[]], []⟩) (h := (fun gs => .a)) (G := fun t g => gq29.F (fun y0 y1 y2 => g (y0, y1, y2)) t.1.1 t.1.2.1 t.1.2.2.1 t.1.2.2.2.1 t.1.2.2.2.2.1 t.1.2.2.2.2.2.1) (by kernel_rfl) gq29.hE Try.func29 (by kernel_rfl) rfl (Nat.le_refl _) (fun t => HintOk.n1 (by kernel_rfl) (gq29.hok gq29.hE)) (fun t g => gq29.F_nat g (fun y0 y1 y2 => some (y0, y1, y2)) _ _ _ _ _ _) (fun t => by kernel_rfl)
def gq9.F {R : Type} (kk : Int → ByteArray → ByteArray → Int → Option R) (l_Leaves : List ByteArray) (l_Map_Key : ByteArray) (l_Map_Value : ByteArray) (l_Map_At : Int) (l_Map_Kids : List (El kk8eb)) (l_Sessions : List (El kkb2)) : Option R :=
 (gq28 l_Leaves l_Map_Key l_Map_Value l_Map_At l_Map_Kids l_Sessions).bind fun r =>
 cond (!r) (kk (0 : Int) ByteArray.empty ByteArray.empty (1 : Int)) (
  (gq29 l_Leaves l_Map_Key l_Map_Value l_Map_At l_Map_Kids l_Sessions).bind fun r1 =>
  kk r1.1 r1.2.1 r1.2.2 (0 : Int))
theorem gq9.F_nat {R S : Type} (g : R → Option S) (kk : Int → ByteArray → ByteArray → Int → Option R) (l_Leaves l_Map_Key l_Map_Value l_Map_At l_Map_Kids l_Sessions) : gq9.F (fun y0 y1 y2 y3 => (kk y0 y1 y2 y3).bind g) l_Leaves l_Map_Key l_Map_Value l_Map_At l_Map_Kids l_Sessions = (gq9.F kk l_Leaves l_Map_Key l_Map_Value l_Map_At l_Map_Kids l_Sessions).bind g := by
 simp only [gq9.F, grd_bind, cnd_bind, bnd_bind, non_bind]
def gq9 (l_Leaves : List ByteArray) (l_Map_Key : ByteArray) (l_Map_Value : ByteArray) (l_Map_At : Int) (l_Map_Kids : List (El kk8eb)) (l_Sessions : List (El kkb2)) : Option (Int × ByteArray × ByteArray × Int) := gq9.F (fun y0 y1 y2 y3 => some (y0, y1, y2, y3)) l_Leaves l_Map_Key l_Map_Value l_Map_At l_Map_Kids l_Sessions
def gq9.out : (Int × ByteArray × ByteArray × Int) → CRes := fun a => ⟨encL SV.enc [.agg [.int .i64, .str, .str], .one (.int .i64)] ((a.1, a.2.1, a.2.2.1, ()), a.2.2.2, ()), [encL SC.enc [] ()]⟩
def gq9.ps : List PS := [.val [some (.str, false), none, none, none, some (kk8eb, false), some (kkb2, false)]]
def gq9.sA : List SA := [.v (.agg [.slv [] .str, .str, .str, .int .i64, .slv [] kk8eb, .slv [] kkb2])]
def gq9.fi : FI := FIs gq9.sA (Int × ByteArray × ByteArray × Int) (fun t => gq9 t.1.1 t.1.2.1 t.1.2.2.1 t.1.2.2.2.1 t.1.2.2.2.2.1 t.1.2.2.2.2.2.1) gq9.out gq9.ps
def gq9.E : Env := ⟨tt, lkF [(28, gq28.fi), (29, gq29.fi)], 10, 0, [], []⟩
theorem gq9.hok (hE : EOk Try.prog (gq9.E)) : HintOk Try.prog gq9.E (bodyOf Try.f9) (.a) := HintOk.n1 (Q := True) (by kernel_rfl) trivial
theorem gq9.hE : EOk Try.prog (gq9.E) := EOk.of ttOk (⟨gq28.fok, ⟨gq29.fok, trivial⟩⟩)
theorem gq9.fok : FOk Try.prog 9 gq9.fi :=
 fokS (E := gq9.E) (wy := ⟨[[none, none, none], [none]], [[]], []⟩) (h := (fun gs => .a)) (G := fun t g => gq9.F (fun y0 y1 y2 y3 => g (y0, y1, y2, y3)) t.1.1 t.1.2.1 t.1.2.2.1 t.1.2.2.2.1 t.1.2.2.2.2.1 t.1.2.2.2.2.2.1) (by kernel_rfl) gq9.hE Try.func9 (by kernel_rfl) rfl (Nat.le_refl _) (fun t => HintOk.n1 (by kernel_rfl) (gq9.hok gq9.hE)) (fun t g => gq9.F_nat g (fun y0 y1 y2 y3 => some (y0, y1, y2, y3)) _ _ _ _ _ _) (fun t => by kernel_rfl)
def gq10.F {R : Type} (kk : Bool → Option R) (a_Size : Int) (a_Log : ByteArray) (a_Map : ByteArray) (b_Size : Int) (b_Log : ByteArray) (b_Map : ByteArray) : Option R :=
 cond (a_Size != b_Size) (kk false) (cond (!(sEq a_Log b_Log)) (kk false) (cond (!(sEq a_Map b_Map)) (kk false) (kk true)))
theorem gq10.F_nat {R S : Type} (g : R → Option S) (kk : Bool → Option R) (a_Size a_Log a_Map b_Size b_Log b_Map) : gq10.F (fun y0 => (kk y0).bind g) a_Size a_Log a_Map b_Size b_Log b_Map = (gq10.F kk a_Size a_Log a_Map b_Size b_Log b_Map).bind g := by
 simp only [gq10.F, grd_bind, cnd_bind, bnd_bind, non_bind]
def gq10 (a_Size : Int) (a_Log : ByteArray) (a_Map : ByteArray) (b_Size : Int) (b_Log : ByteArray) (b_Map : ByteArray) : Option Bool := gq10.F (fun y0 => some y0) a_Size a_Log a_Map b_Size b_Log b_Map
def gq10.out : Bool → CRes := fun a => ⟨encL SV.enc [.one (.bool)] (a, ()), [encL SC.enc [] (), encL SC.enc [] ()]⟩
def gq10.ps : List PS := [.val [none, none, none], .val [none, none, none]]
def gq10.sA : List SA := [.v (.agg [.int .i64, .str, .str]), .v (.agg [.int .i64, .str, .str])]
def gq10.fi : FI := FIs gq10.sA (Bool) (fun t => gq10 t.1.1 t.1.2.1 t.1.2.2.1 t.2.1.1 t.2.1.2.1 t.2.1.2.2.1) gq10.out gq10.ps
def gq10.E : Env := ⟨tt, lkF [], 20, 0, [], []⟩
theorem gq10.hok (hE : EOk Try.prog (gq10.E)) : HintOk Try.prog gq10.E (bodyOf Try.f10) (.a) := HintOk.n1 (Q := True) (by kernel_rfl) trivial
theorem gq10.hE : EOk Try.prog (gq10.E) := EOk.of ttOk (trivial)
theorem gq10.fok : FOk Try.prog 10 gq10.fi :=
 fokS (E := gq10.E) (wy := ⟨[[none]], [[], []], []⟩) (h := (fun gs => .a)) (G := fun t g => gq10.F (fun y0 => g y0) t.1.1 t.1.2.1 t.1.2.2.1 t.2.1.1 t.2.1.2.1 t.2.1.2.2.1) (by kernel_rfl) gq10.hE Try.func10 (by kernel_rfl) rfl (Nat.le_refl _) (fun t => HintOk.n1 (by kernel_rfl) (gq10.hok gq10.hE)) (fun t g => gq10.F_nat g (fun y0 => some y0) _ _ _ _ _ _) (fun t => by kernel_rfl)
def gq14.l1 {R : Type} (kke0 : Option R) (kkr : Bool → Option R) : Nat → List ByteArray → List ByteArray → Int → Option R
 | 0, _, _, _ => none
 | n + 1, a, b, i =>
  cond (decide (i < (List.length a : Int))) (
   grd (gIx i (List.length a)) <|
   grd (gIx i (List.length b)) <|
   cond (!(sEq (rdE (.str : Kd) a (Int.toNat i)) (rdE (.str : Kd) b (Int.toNat i)))) (kkr false) (gq14.l1 kke0 kkr n a b (IntKind.wrap .i64 (i + (1 : Int))))) (kke0)
theorem gq14.l1_nat {R S : Type} (g : R → Option S) (kke0 : Option R) (kkr : Bool → Option R) : ∀ n a b i, gq14.l1 (kke0.bind g) (fun y0 => (kkr y0).bind g) n a b i = (gq14.l1 kke0 kkr n a b i).bind g := by
 intro n
 induction n with
 | zero => intros; rfl
 | succ n ih => intros; simp only [gq14.l1, grd_bind, cnd_bind, bnd_bind, non_bind, ih]
def gq14.F {R : Type} (kk : Bool → Option R) (a : List ByteArray) (b : List ByteArray) : Option R :=
 cond ((List.length a : Int) != (List.length b : Int)) (kk false) (gq14.l1 (kk true) (fun b1 => kk b1) fuel a b (0 : Int))
theorem gq14.F_nat {R S : Type} (g : R → Option S) (kk : Bool → Option R) (a b) : gq14.F (fun y0 => (kk y0).bind g) a b = (gq14.F kk a b).bind g := by
 simp only [gq14.F, grd_bind, cnd_bind, bnd_bind, non_bind, ← gq14.l1_nat]
def gq14 (a : List ByteArray) (b : List ByteArray) : Option Bool := gq14.F (fun y0 => some y0) a b
def gq14.out : Bool → CRes := fun a => ⟨encL SV.enc [.one (.bool)] (a, ()), [encL SC.enc [] (), encL SC.enc [] ()]⟩
def gq14.ps : List PS := [.val [some (.str, false)], .val [some (.str, false)]]
def gq14.sA : List SA := [.v (.one (.slv [] .str)), .v (.one (.slv [] .str))]
def gq14.fi : FI := FIs gq14.sA (Bool) (fun t => gq14 t.1 t.2.1) gq14.out gq14.ps
def gq14.E : Env := ⟨tt, lkF [], 26, 0, [], []⟩
def gq14.sh1 : SK := ⟨[.v (.one (.slv [1] .str)), .v (.one (.slv [2] .str)), .v (.one (.int .i64))], []⟩
def gq14.sh1e0 : SK := ⟨[], []⟩
def gq14.sh1r : SK := ⟨[.v (.one (.bool))], []⟩
def gq14.ko1 : Ex → List CastAt × List Nat
 | .nrm => ([], [])
 | .ret => ([], [4])
 | .ext i => cond (Nat.beq i 0) ([], []) ([], [])
def gq14.G1 (n : Nat) (R : Type) (t : gq14.sh1.T) (K : Ex → Kp → Option R) : Option R := gq14.l1 (K (.ext 0) (SK.enc gq14.sh1e0 ((), ()))) (fun y0 => K .ret (SK.enc gq14.sh1r ((y0, ()), ()))) n t.1.1 t.1.2.1 t.1.2.2.1
def gq14.S1 : Sum := ⟨([], [0, 1, 5]), sumF gq14.sh1 (gq14.G1 fuel), gq14.ko1⟩
theorem gq14.ok1 (hE : EOk Try.prog (gq14.E)) : SumOk Try.prog gq14.E (cB (cR (cL (cR (cR (bodyOf Try.f14)))))) (gq14.S1) := by
 have hh : HintOk Try.prog gq14.E (cB (cB (cR (cL (cR (cR (bodyOf Try.f14))))))) (.a) := HintOk.n1 (Q := True) (by kernel_rfl) trivial
 have h := loopS (kin := ([], [0, 1, 5])) (kout := gq14.ko1) (sh := gq14.sh1) (F := gq14.G1) (ops_ok (hE.gv _)) (by kernel_rfl) hh (fun _ _ _ => rfl) (fun n R t K => by kernel_rfl) fuel
 exact HintOk.n1 (c := (cB (cR (cL (cR (cR (bodyOf Try.f14))))))) (h := .s (gq14.S1)) (P := Try.prog) (E := gq14.E) (by kernel_rfl) h
theorem gq14.hok (hE : EOk Try.prog (gq14.E)) : HintOk Try.prog gq14.E (bodyOf Try.f14) (.n (.a) (.n (.a) (.n (.n (.a) (.b (.s (gq14.S1)))) (.a)))) := HintOk.n1 (Q := (True) ∧ ((True) ∧ (((True) ∧ (SumOk Try.prog gq14.E (cB (cR (cL (cR (cR (bodyOf Try.f14)))))) (gq14.S1))) ∧ (True)))) (by kernel_rfl) ⟨trivial, ⟨trivial, ⟨⟨trivial, (gq14.ok1 hE)⟩, trivial⟩⟩⟩
theorem gq14.hE : EOk Try.prog (gq14.E) := EOk.of ttOk (trivial)
theorem gq14.fok : FOk Try.prog 14 gq14.fi :=
 fokS (E := gq14.E) (wy := ⟨[[none]], [[], []], []⟩) (h := (fun gs => .n (.a) (.n (.a) (.n (.n (.a) (.b (.s (gq14.S1)))) (.a))))) (G := fun t g => gq14.F (fun y0 => g y0) t.1 t.2.1) (by kernel_rfl) gq14.hE Try.func14 (by kernel_rfl) rfl (Nat.le_refl _) (fun t => HintOk.n1 (by kernel_rfl) (gq14.hok gq14.hE)) (fun t g => gq14.F_nat g (fun y0 => some y0) _ _) (fun t => by kernel_rfl)
end
end Go.Proofs.YtooijdhcaghdlaaA
