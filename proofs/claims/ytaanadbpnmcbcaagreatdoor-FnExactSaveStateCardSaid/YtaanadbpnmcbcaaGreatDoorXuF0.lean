/-
  Functions of the program, and that the small machine's runs are these. No condition.
  Printed by wip/amp/main.py (a session's own program) out of Lean's print of the program; Lean's kernel checks it.
-/
import Derived.Test.YtaanadbpnmcbcaaGreatDoorXuT
namespace Go.Proofs.YtaanadbpnmcbcaaGreatDoorA
open Go
noncomputable section
set_option linter.unusedVariables false
set_option linter.unusedSimpArgs false
set_option maxRecDepth 100000
def gq93.F {R : Type} (kk : Int → Option R) (a_Name : ByteArray) (a_Data : ByteArray) (a_Sure : Int) (left : Int) : Option R :=
 cond (decide ((IntKind.wrap .i64 (left - (ByteArray.size a_Name : Int))) < (0 : Int))) (kk (-1 : Int)) (
  cond (decide ((IntKind.wrap .i64 ((IntKind.wrap .i64 (left - (ByteArray.size a_Name : Int))) - (ByteArray.size a_Data : Int))) < (0 : Int))) (kk (-1 : Int)) (
   kk (IntKind.wrap .i64 ((IntKind.wrap .i64 (left - (ByteArray.size a_Name : Int))) - (ByteArray.size a_Data : Int)))))
theorem gq93.F_nat {R S : Type} (g : R → Option S) (kk : Int → Option R) (a_Name a_Data a_Sure left) : gq93.F (fun y0 => (kk y0).bind g) a_Name a_Data a_Sure left = (gq93.F kk a_Name a_Data a_Sure left).bind g := by
 simp only [gq93.F, grd_bind, cnd_bind, bnd_bind, non_bind]
def gq93 (a_Name : ByteArray) (a_Data : ByteArray) (a_Sure : Int) (left : Int) : Option Int := gq93.F (fun y0 => some y0) a_Name a_Data a_Sure left
def gq93.out : Int → CRes := fun a => ⟨encL SV.enc [.one (.int .i64)] (a, ()), [encL SC.enc [] (), encL SC.enc [] ()]⟩
def gq93.ps : List PS := [.val [none, none, none], .val [none]]
def gq93.sA : List SA := [.v (.agg [.str, .str, .int .i64]), .v (.one (.int .i64))]
def gq93.fi : FI := FIs gq93.sA (Int) (fun t => gq93 t.1.1 t.1.2.1 t.1.2.2.1 t.2.1) gq93.out gq93.ps
def gq93.E : Env := ⟨tt, lkF [], 20, 0, [], []⟩
theorem gq93.hok (hE : EOk Tryz.prog (gq93.E)) : HintOk Tryz.prog gq93.E (bodyOf Tryz.f93) (.a) := HintOk.n1 (Q := True) (by kernel_rfl) trivial
theorem gq93.hE : EOk Tryz.prog (gq93.E) := EOk.of ttOk (trivial)
theorem gq93.fok : FOk Tryz.prog 93 gq93.fi :=
 fokS (E := gq93.E) (wy := ⟨[[none]], [[], []], []⟩) (h := (fun gs => .a)) (G := fun t g => gq93.F (fun y0 => g y0) t.1.1 t.1.2.1 t.1.2.2.1 t.2.1) (by kernel_rfl) gq93.hE Tryz.func93 (by kernel_rfl) rfl (Nat.le_refl _) (fun t => HintOk.n1 (by kernel_rfl) (gq93.hok gq93.hE)) (fun t g => gq93.F_nat g (fun y0 => some y0) _ _ _ _) (fun t => by kernel_rfl)
def gq48.l1 {R : Type} (kke0 : Int → Option R) (kkr : Int → Option R) : Nat → List (El kFile) → Int → Int → Option R
 | 0, _, _, _ => none
 | n + 1, a, left, i =>
  cond (decide (i < (List.length a : Int))) (
   grd (gIx i (List.length a)) <|
   (gq93 ((rdE kFile a (Int.toNat i)).1) ((rdE kFile a (Int.toNat i)).2.1) ((rdE kFile a (Int.toNat i)).2.2) left).bind fun r =>
   cond (decide (r < (0 : Int))) (kkr (-1 : Int)) (gq48.l1 kke0 kkr n a r (IntKind.wrap .i64 (i + (1 : Int))))) (kke0 left)
theorem gq48.l1_nat {R S : Type} (g : R → Option S) (kke0 : Int → Option R) (kkr : Int → Option R) : ∀ n a left i, gq48.l1 (fun y0 => (kke0 y0).bind g) (fun y0 => (kkr y0).bind g) n a left i = (gq48.l1 kke0 kkr n a left i).bind g := by
 intro n
 induction n with
 | zero => intros; rfl
 | succ n ih => intros; simp only [gq48.l1, grd_bind, cnd_bind, bnd_bind, non_bind, ih]
def gq48.F {R : Type} (kk : Int → Option R) (a : List (El kFile)) (left : Int) : Option R :=
 cond (decide ((IntKind.wrap .i64 (left - (List.length a : Int))) < (0 : Int))) (kk (-1 : Int)) (
  gq48.l1 (fun left1 => kk left1) (fun i => kk i) fuel a (IntKind.wrap .i64 (left - (List.length a : Int))) (0 : Int))
theorem gq48.F_nat {R S : Type} (g : R → Option S) (kk : Int → Option R) (a left) : gq48.F (fun y0 => (kk y0).bind g) a left = (gq48.F kk a left).bind g := by
 simp only [gq48.F, grd_bind, cnd_bind, bnd_bind, non_bind, ← gq48.l1_nat]
def gq48 (a : List (El kFile)) (left : Int) : Option Int := gq48.F (fun y0 => some y0) a left
def gq48.out : Int → CRes := fun a => ⟨encL SV.enc [.one (.int .i64)] (a, ()), [encL SC.enc [] (), encL SC.enc [] ()]⟩
def gq48.ps : List PS := [.val [some (kFile, false)], .val [none]]
def gq48.sA : List SA := [.v (.one (.slv [] kFile)), .v (.one (.int .i64))]
def gq48.fi : FI := FIs gq48.sA (Int) (fun t => gq48 t.1 t.2.1) gq48.out gq48.ps
def gq48.E : Env := ⟨tt, lkF [(93, gq93.fi)], 27, 0, [], []⟩
def gq48.sh1 : SK := ⟨[.v (.one (.slv [1] kFile)), .v (.one (.int .i64)), .v (.one (.int .i64))], []⟩
def gq48.sh1e0 : SK := ⟨[.v (.one (.int .i64))], []⟩
def gq48.sh1r : SK := ⟨[.v (.one (.int .i64))], []⟩
def gq48.ko1 : Ex → List CastAt × List Nat
 | .nrm => ([], [])
 | .ret => ([], [4])
 | .ext i => cond (Nat.beq i 0) ([], [1]) ([], [])
def gq48.G1 (n : Nat) (R : Type) (t : gq48.sh1.T) (K : Ex → Kp → Option R) : Option R := gq48.l1 (fun y0 => K (.ext 0) (SK.enc gq48.sh1e0 ((y0, ()), ()))) (fun y0 => K .ret (SK.enc gq48.sh1r ((y0, ()), ()))) n t.1.1 t.1.2.1 t.1.2.2.1
def gq48.S1 : Sum := ⟨([], [0, 1, 5]), sumF gq48.sh1 (gq48.G1 fuel), gq48.ko1⟩
theorem gq48.ok1 (hE : EOk Tryz.prog (gq48.E)) : SumOk Tryz.prog gq48.E (cB (cR (cL (cR (cR (cR (bodyOf Tryz.f48))))))) (gq48.S1) := by
 have hh : HintOk Tryz.prog gq48.E (cB (cB (cR (cL (cR (cR (cR (bodyOf Tryz.f48)))))))) (.a) := HintOk.n1 (Q := True) (by kernel_rfl) trivial
 have h := loopS (kin := ([], [0, 1, 5])) (kout := gq48.ko1) (sh := gq48.sh1) (F := gq48.G1) (ops_ok (hE.gv _)) (by kernel_rfl) hh (fun _ _ _ => rfl) (fun n R t K => by kernel_rfl) fuel
 exact HintOk.n1 (c := (cB (cR (cL (cR (cR (cR (bodyOf Tryz.f48)))))))) (h := .s (gq48.S1)) (P := Tryz.prog) (E := gq48.E) (by kernel_rfl) h
theorem gq48.hok (hE : EOk Tryz.prog (gq48.E)) : HintOk Tryz.prog gq48.E (bodyOf Tryz.f48) (.n (.a) (.n (.a) (.n (.a) (.n (.n (.a) (.b (.s (gq48.S1)))) (.a))))) := HintOk.n1 (Q := (True) ∧ ((True) ∧ ((True) ∧ (((True) ∧ (SumOk Tryz.prog gq48.E (cB (cR (cL (cR (cR (cR (bodyOf Tryz.f48))))))) (gq48.S1))) ∧ (True))))) (by kernel_rfl) ⟨trivial, ⟨trivial, ⟨trivial, ⟨⟨trivial, (gq48.ok1 hE)⟩, trivial⟩⟩⟩⟩
theorem gq48.hE : EOk Tryz.prog (gq48.E) := EOk.of ttOk (⟨gq93.fok, trivial⟩)
theorem gq48.fok : FOk Tryz.prog 48 gq48.fi :=
 fokS (E := gq48.E) (wy := ⟨[[none]], [[], []], []⟩) (h := (fun gs => .n (.a) (.n (.a) (.n (.a) (.n (.n (.a) (.b (.s (gq48.S1)))) (.a)))))) (G := fun t g => gq48.F (fun y0 => g y0) t.1 t.2.1) (by kernel_rfl) gq48.hE Tryz.func48 (by kernel_rfl) rfl (Nat.le_refl _) (fun t => HintOk.n1 (by kernel_rfl) (gq48.hok gq48.hE)) (fun t g => gq48.F_nat g (fun y0 => some y0) _ _) (fun t => by kernel_rfl)
def gq10.F {R : Type} (kk : Int → Option R) (a_Room : Int) (a_Files : List (El kFile)) (left : Int) : Option R :=
 (gq48 a_Files left).bind fun r =>
 cond (decide (r < (0 : Int))) (kk (-1 : Int)) (kk r)
theorem gq10.F_nat {R S : Type} (g : R → Option S) (kk : Int → Option R) (a_Room a_Files left) : gq10.F (fun y0 => (kk y0).bind g) a_Room a_Files left = (gq10.F kk a_Room a_Files left).bind g := by
 simp only [gq10.F, grd_bind, cnd_bind, bnd_bind, non_bind]
def gq10 (a_Room : Int) (a_Files : List (El kFile)) (left : Int) : Option Int := gq10.F (fun y0 => some y0) a_Room a_Files left
def gq10.out : Int → CRes := fun a => ⟨encL SV.enc [.one (.int .i64)] (a, ()), [encL SC.enc [] (), encL SC.enc [] ()]⟩
def gq10.ps : List PS := [.val [none, some (kFile, false)], .val [none]]
def gq10.sA : List SA := [.v (.agg [.int .i64, .slv [] kFile]), .v (.one (.int .i64))]
def gq10.fi : FI := FIs gq10.sA (Int) (fun t => gq10 t.1.1 t.1.2.1 t.2.1) gq10.out gq10.ps
def gq10.E : Env := ⟨tt, lkF [(48, gq48.fi)], 12, 0, [], []⟩
theorem gq10.hok (hE : EOk Tryz.prog (gq10.E)) : HintOk Tryz.prog gq10.E (bodyOf Tryz.f10) (.a) := HintOk.n1 (Q := True) (by kernel_rfl) trivial
theorem gq10.hE : EOk Tryz.prog (gq10.E) := EOk.of ttOk (⟨gq48.fok, trivial⟩)
theorem gq10.fok : FOk Tryz.prog 10 gq10.fi :=
 fokS (E := gq10.E) (wy := ⟨[[none]], [[], []], []⟩) (h := (fun gs => .a)) (G := fun t g => gq10.F (fun y0 => g y0) t.1.1 t.1.2.1 t.2.1) (by kernel_rfl) gq10.hE Tryz.func10 (by kernel_rfl) rfl (Nat.le_refl _) (fun t => HintOk.n1 (by kernel_rfl) (gq10.hok gq10.hE)) (fun t g => gq10.F_nat g (fun y0 => some y0) _ _ _) (fun t => by kernel_rfl)
def gq100.F {R : Type} (kk : ByteArray → ByteArray → Int → Option R) (a_Name : ByteArray) (a_Data : ByteArray) (a_Sure : Int) : Option R :=
 kk a_Name a_Data a_Sure
theorem gq100.F_nat {R S : Type} (g : R → Option S) (kk : ByteArray → ByteArray → Int → Option R) (a_Name a_Data a_Sure) : gq100.F (fun y0 y1 y2 => (kk y0 y1 y2).bind g) a_Name a_Data a_Sure = (gq100.F kk a_Name a_Data a_Sure).bind g := by
 simp only [gq100.F, grd_bind, cnd_bind, bnd_bind, non_bind]
def gq100 (a_Name : ByteArray) (a_Data : ByteArray) (a_Sure : Int) : Option (ByteArray × ByteArray × Int) := gq100.F (fun y0 y1 y2 => some (y0, y1, y2)) a_Name a_Data a_Sure
def gq100.out : (ByteArray × ByteArray × Int) → CRes := fun a => ⟨encL SV.enc [.agg [.str, .str, .int .i64]] ((a.1, a.2.1, a.2.2, ()), ()), [encL SC.enc [] ()]⟩
def gq100.ps : List PS := [.val [none, none, none]]
def gq100.sA : List SA := [.v (.agg [.str, .str, .int .i64])]
def gq100.fi : FI := FIs gq100.sA (ByteArray × ByteArray × Int) (fun t => gq100 t.1.1 t.1.2.1 t.1.2.2.1) gq100.out gq100.ps
def gq100.E : Env := ⟨tt, lkF [], 14, 0, [], []⟩
theorem gq100.hok (hE : EOk Tryz.prog (gq100.E)) : HintOk Tryz.prog gq100.E (bodyOf Tryz.f100) (.a) := HintOk.n1 (Q := True) (by kernel_rfl) trivial
theorem gq100.hE : EOk Tryz.prog (gq100.E) := EOk.of ttOk (trivial)
theorem gq100.fok : FOk Tryz.prog 100 gq100.fi :=
 fokS (E := gq100.E) (wy := ⟨[[none, none, none]], [[]], []⟩) (h := (fun gs => .a)) (G := fun t g => gq100.F (fun y0 y1 y2 => g (y0, y1, y2)) t.1.1 t.1.2.1 t.1.2.2.1) (by kernel_rfl) gq100.hE Tryz.func100 (by kernel_rfl) rfl (Nat.le_refl _) (fun t => HintOk.n1 (by kernel_rfl) (gq100.hok gq100.hE)) (fun t g => gq100.F_nat g (fun y0 y1 y2 => some (y0, y1, y2)) _ _ _) (fun t => by kernel_rfl)
def gq52.l1 {R : Type} (kke0 : List (El kFile) → Option R) : Nat → List (El kFile) → Int → List (El kFile) → Option R
 | 0, _, _, _ => none
 | n + 1, a, i, out =>
  cond (decide (i < (List.length a : Int))) (
   grd (gIx i (List.length a)) <|
   (gq100 ((rdE kFile a (Int.toNat i)).1) ((rdE kFile a (Int.toNat i)).2.1) ((rdE kFile a (Int.toNat i)).2.2)).bind fun r =>
   grd (gIx i (List.length out)) <|
   gq52.l1 kke0 n a (IntKind.wrap .i64 (i + (1 : Int))) (setE kFile out (Int.toNat i) r)) (kke0 out)
theorem gq52.l1_nat {R S : Type} (g : R → Option S) (kke0 : List (El kFile) → Option R) : ∀ n a i out, gq52.l1 (fun y0 => (kke0 y0).bind g) n a i out = (gq52.l1 kke0 n a i out).bind g := by
 intro n
 induction n with
 | zero => intros; rfl
 | succ n ih => intros; simp only [gq52.l1, grd_bind, cnd_bind, bnd_bind, non_bind, ih]
def gq52.F {R : Type} (kk : List (El kFile) → Option R) (a : List (El kFile)) : Option R :=
 grd (gMk (List.length a : Int) (List.length a : Int) 40) <|
 gq52.l1 (fun out => kk out) fuel a (0 : Int) (List.replicate (Int.toNat (List.length a : Int)) (ByteArray.empty, (ByteArray.empty, (0 : Int))))
theorem gq52.F_nat {R S : Type} (g : R → Option S) (kk : List (El kFile) → Option R) (a) : gq52.F (fun y0 => (kk y0).bind g) a = (gq52.F kk a).bind g := by
 simp only [gq52.F, grd_bind, cnd_bind, bnd_bind, non_bind, ← gq52.l1_nat]
def gq52 (a : List (El kFile)) : Option (List (El kFile)) := gq52.F (fun y0 => some y0) a
def gq52.out : (List (El kFile)) → CRes := fun a => ⟨encL SV.enc [.one (.own [] kFile true)] (a, ()), [encL SC.enc [] ()]⟩
def gq52.ps : List PS := [.val [some (kFile, false)]]
def gq52.sA : List SA := [.v (.one (.slv [] kFile))]
def gq52.fi : FI := FIs gq52.sA (List (El kFile)) (fun t => gq52 t.1) gq52.out gq52.ps
def gq52.E : Env := ⟨tt, lkF [(100, gq100.fi)], 23, 0, [], []⟩
def gq52.sh1 : SK := ⟨[.v (.one (.slv [1] kFile)), .v (.one (.slo 0)), .v (.one (.int .i64))], [.arr kFile [] true]⟩
def gq52.sh1e0 : SK := ⟨[.v (.one (.slo 0))], [.arr kFile [] true]⟩
def gq52.ko1 : Ex → List CastAt × List Nat
 | .nrm => ([], [])
 | .ret => ([], [])
 | .ext i => cond (Nat.beq i 0) ([], [3]) ([], [])
def gq52.G1 (n : Nat) (R : Type) (t : gq52.sh1.T) (K : Ex → Kp → Option R) : Option R := gq52.l1 (fun y0 => K (.ext 0) (SK.enc gq52.sh1e0 (((), ()), (y0, ())))) n t.1.1 t.1.2.2.1 t.2.1
def gq52.S1 : Sum := ⟨([], [0, 3, 4]), sumF gq52.sh1 (gq52.G1 fuel), gq52.ko1⟩
theorem gq52.ok1 (hE : EOk Tryz.prog (gq52.E)) : SumOk Tryz.prog gq52.E (cB (cR (cL (cR (cR (bodyOf Tryz.f52)))))) (gq52.S1) := by
 have hh : HintOk Tryz.prog gq52.E (cB (cB (cR (cL (cR (cR (bodyOf Tryz.f52))))))) (.a) := HintOk.n1 (Q := True) (by kernel_rfl) trivial
 have h := loopS (kin := ([], [0, 3, 4])) (kout := gq52.ko1) (sh := gq52.sh1) (F := gq52.G1) (ops_ok (hE.gv _)) (by kernel_rfl) hh (fun _ _ _ => rfl) (fun n R t K => by kernel_rfl) fuel
 exact HintOk.n1 (c := (cB (cR (cL (cR (cR (bodyOf Tryz.f52))))))) (h := .s (gq52.S1)) (P := Tryz.prog) (E := gq52.E) (by kernel_rfl) h
theorem gq52.hok (hE : EOk Tryz.prog (gq52.E)) : HintOk Tryz.prog gq52.E (bodyOf Tryz.f52) (.n (.a) (.n (.a) (.n (.n (.a) (.b (.s (gq52.S1)))) (.a)))) := HintOk.n1 (Q := (True) ∧ ((True) ∧ (((True) ∧ (SumOk Tryz.prog gq52.E (cB (cR (cL (cR (cR (bodyOf Tryz.f52)))))) (gq52.S1))) ∧ (True)))) (by kernel_rfl) ⟨trivial, ⟨trivial, ⟨⟨trivial, (gq52.ok1 hE)⟩, trivial⟩⟩⟩
theorem gq52.hE : EOk Tryz.prog (gq52.E) := EOk.of ttOk (⟨gq100.fok, trivial⟩)
theorem gq52.fok : FOk Tryz.prog 52 gq52.fi :=
 fokS (E := gq52.E) (wy := ⟨[[some (kFile, true)]], [[]], []⟩) (h := (fun gs => .n (.a) (.n (.a) (.n (.n (.a) (.b (.s (gq52.S1)))) (.a))))) (G := fun t g => gq52.F (fun y0 => g y0) t.1) (by kernel_rfl) gq52.hE Tryz.func52 (by kernel_rfl) rfl (Nat.le_refl _) (fun t => HintOk.n1 (by kernel_rfl) (gq52.hok gq52.hE)) (fun t g => gq52.F_nat g (fun y0 => some y0) _) (fun t => by kernel_rfl)
def gq12.F {R : Type} (kk : Int → List (El kFile) → Option R) (a_Room : Int) (a_Files : List (El kFile)) : Option R :=
 (gq52 a_Files).bind fun r =>
 kk a_Room r
theorem gq12.F_nat {R S : Type} (g : R → Option S) (kk : Int → List (El kFile) → Option R) (a_Room a_Files) : gq12.F (fun y0 y1 => (kk y0 y1).bind g) a_Room a_Files = (gq12.F kk a_Room a_Files).bind g := by
 simp only [gq12.F, grd_bind, cnd_bind, bnd_bind, non_bind]
def gq12 (a_Room : Int) (a_Files : List (El kFile)) : Option (Int × List (El kFile)) := gq12.F (fun y0 y1 => some (y0, y1)) a_Room a_Files
def gq12.out : (Int × List (El kFile)) → CRes := fun a => ⟨encL SV.enc [.agg [.int .i64, .own [] kFile true]] ((a.1, a.2, ()), ()), [encL SC.enc [] ()]⟩
def gq12.ps : List PS := [.val [none, some (kFile, false)]]
def gq12.sA : List SA := [.v (.agg [.int .i64, .slv [] kFile])]
def gq12.fi : FI := FIs gq12.sA (Int × List (El kFile)) (fun t => gq12 t.1.1 t.1.2.1) gq12.out gq12.ps
def gq12.E : Env := ⟨tt, lkF [(52, gq52.fi)], 12, 0, [], []⟩
theorem gq12.hok (hE : EOk Tryz.prog (gq12.E)) : HintOk Tryz.prog gq12.E (bodyOf Tryz.f12) (.a) := HintOk.n1 (Q := True) (by kernel_rfl) trivial
theorem gq12.hE : EOk Tryz.prog (gq12.E) := EOk.of ttOk (⟨gq52.fok, trivial⟩)
theorem gq12.fok : FOk Tryz.prog 12 gq12.fi :=
 fokS (E := gq12.E) (wy := ⟨[[none, some (kFile, true)]], [[]], []⟩) (h := (fun gs => .a)) (G := fun t g => gq12.F (fun y0 y1 => g (y0, y1)) t.1.1 t.1.2.1) (by kernel_rfl) gq12.hE Tryz.func12 (by kernel_rfl) rfl (Nat.le_refl _) (fun t => HintOk.n1 (by kernel_rfl) (gq12.hok gq12.hE)) (fun t g => gq12.F_nat g (fun y0 y1 => some (y0, y1)) _ _) (fun t => by kernel_rfl)
def gq108.F {R : Type} (kk : Bool → Option R) (a_Name : ByteArray) (a_Data : ByteArray) (a_Sure : Int) (b_Name : ByteArray) (b_Data : ByteArray) (b_Sure : Int) : Option R :=
 cond (!(sEq a_Name b_Name)) (kk false) (cond (!(sEq a_Data b_Data)) (kk false) (cond (a_Sure != b_Sure) (kk false) (kk true)))
theorem gq108.F_nat {R S : Type} (g : R → Option S) (kk : Bool → Option R) (a_Name a_Data a_Sure b_Name b_Data b_Sure) : gq108.F (fun y0 => (kk y0).bind g) a_Name a_Data a_Sure b_Name b_Data b_Sure = (gq108.F kk a_Name a_Data a_Sure b_Name b_Data b_Sure).bind g := by
 simp only [gq108.F, grd_bind, cnd_bind, bnd_bind, non_bind]
def gq108 (a_Name : ByteArray) (a_Data : ByteArray) (a_Sure : Int) (b_Name : ByteArray) (b_Data : ByteArray) (b_Sure : Int) : Option Bool := gq108.F (fun y0 => some y0) a_Name a_Data a_Sure b_Name b_Data b_Sure
def gq108.out : Bool → CRes := fun a => ⟨encL SV.enc [.one (.bool)] (a, ()), [encL SC.enc [] (), encL SC.enc [] ()]⟩
def gq108.ps : List PS := [.val [none, none, none], .val [none, none, none]]
def gq108.sA : List SA := [.v (.agg [.str, .str, .int .i64]), .v (.agg [.str, .str, .int .i64])]
def gq108.fi : FI := FIs gq108.sA (Bool) (fun t => gq108 t.1.1 t.1.2.1 t.1.2.2.1 t.2.1.1 t.2.1.2.1 t.2.1.2.2.1) gq108.out gq108.ps
def gq108.E : Env := ⟨tt, lkF [], 20, 0, [], []⟩
theorem gq108.hok (hE : EOk Tryz.prog (gq108.E)) : HintOk Tryz.prog gq108.E (bodyOf Tryz.f108) (.a) := HintOk.n1 (Q := True) (by kernel_rfl) trivial
theorem gq108.hE : EOk Tryz.prog (gq108.E) := EOk.of ttOk (trivial)
theorem gq108.fok : FOk Tryz.prog 108 gq108.fi :=
 fokS (E := gq108.E) (wy := ⟨[[none]], [[], []], []⟩) (h := (fun gs => .a)) (G := fun t g => gq108.F (fun y0 => g y0) t.1.1 t.1.2.1 t.1.2.2.1 t.2.1.1 t.2.1.2.1 t.2.1.2.2.1) (by kernel_rfl) gq108.hE Tryz.func108 (by kernel_rfl) rfl (Nat.le_refl _) (fun t => HintOk.n1 (by kernel_rfl) (gq108.hok gq108.hE)) (fun t g => gq108.F_nat g (fun y0 => some y0) _ _ _ _ _ _) (fun t => by kernel_rfl)
def gq56.l1 {R : Type} (kke0 : Option R) (kkr : Bool → Option R) : Nat → List (El kFile) → List (El kFile) → Int → Option R
 | 0, _, _, _ => none
 | n + 1, a, b, i =>
  cond (decide (i < (List.length a : Int))) (
   grd (gIx i (List.length a)) <|
   grd (gIx i (List.length b)) <|
   (gq108 ((rdE kFile a (Int.toNat i)).1) ((rdE kFile a (Int.toNat i)).2.1) ((rdE kFile a (Int.toNat i)).2.2) ((rdE kFile b (Int.toNat i)).1) ((rdE kFile b (Int.toNat i)).2.1) ((rdE kFile b (Int.toNat i)).2.2)).bind fun r =>
   cond (!r) (kkr false) (gq56.l1 kke0 kkr n a b (IntKind.wrap .i64 (i + (1 : Int))))) (kke0)
theorem gq56.l1_nat {R S : Type} (g : R → Option S) (kke0 : Option R) (kkr : Bool → Option R) : ∀ n a b i, gq56.l1 (kke0.bind g) (fun y0 => (kkr y0).bind g) n a b i = (gq56.l1 kke0 kkr n a b i).bind g := by
 intro n
 induction n with
 | zero => intros; rfl
 | succ n ih => intros; simp only [gq56.l1, grd_bind, cnd_bind, bnd_bind, non_bind, ih]
def gq56.F {R : Type} (kk : Bool → Option R) (a : List (El kFile)) (b : List (El kFile)) : Option R :=
 cond ((List.length a : Int) != (List.length b : Int)) (kk false) (gq56.l1 (kk true) (fun b1 => kk b1) fuel a b (0 : Int))
theorem gq56.F_nat {R S : Type} (g : R → Option S) (kk : Bool → Option R) (a b) : gq56.F (fun y0 => (kk y0).bind g) a b = (gq56.F kk a b).bind g := by
 simp only [gq56.F, grd_bind, cnd_bind, bnd_bind, non_bind, ← gq56.l1_nat]
def gq56 (a : List (El kFile)) (b : List (El kFile)) : Option Bool := gq56.F (fun y0 => some y0) a b
def gq56.out : Bool → CRes := fun a => ⟨encL SV.enc [.one (.bool)] (a, ()), [encL SC.enc [] (), encL SC.enc [] ()]⟩
def gq56.ps : List PS := [.val [some (kFile, false)], .val [some (kFile, false)]]
def gq56.sA : List SA := [.v (.one (.slv [] kFile)), .v (.one (.slv [] kFile))]
def gq56.fi : FI := FIs gq56.sA (Bool) (fun t => gq56 t.1 t.2.1) gq56.out gq56.ps
def gq56.E : Env := ⟨tt, lkF [(108, gq108.fi)], 27, 0, [], []⟩
def gq56.sh1 : SK := ⟨[.v (.one (.slv [1] kFile)), .v (.one (.slv [2] kFile)), .v (.one (.int .i64))], []⟩
def gq56.sh1e0 : SK := ⟨[], []⟩
def gq56.sh1r : SK := ⟨[.v (.one (.bool))], []⟩
def gq56.ko1 : Ex → List CastAt × List Nat
 | .nrm => ([], [])
 | .ret => ([], [4])
 | .ext i => cond (Nat.beq i 0) ([], []) ([], [])
def gq56.G1 (n : Nat) (R : Type) (t : gq56.sh1.T) (K : Ex → Kp → Option R) : Option R := gq56.l1 (K (.ext 0) (SK.enc gq56.sh1e0 ((), ()))) (fun y0 => K .ret (SK.enc gq56.sh1r ((y0, ()), ()))) n t.1.1 t.1.2.1 t.1.2.2.1
def gq56.S1 : Sum := ⟨([], [0, 1, 5]), sumF gq56.sh1 (gq56.G1 fuel), gq56.ko1⟩
theorem gq56.ok1 (hE : EOk Tryz.prog (gq56.E)) : SumOk Tryz.prog gq56.E (cB (cR (cL (cR (cR (bodyOf Tryz.f56)))))) (gq56.S1) := by
 have hh : HintOk Tryz.prog gq56.E (cB (cB (cR (cL (cR (cR (bodyOf Tryz.f56))))))) (.a) := HintOk.n1 (Q := True) (by kernel_rfl) trivial
 have h := loopS (kin := ([], [0, 1, 5])) (kout := gq56.ko1) (sh := gq56.sh1) (F := gq56.G1) (ops_ok (hE.gv _)) (by kernel_rfl) hh (fun _ _ _ => rfl) (fun n R t K => by kernel_rfl) fuel
 exact HintOk.n1 (c := (cB (cR (cL (cR (cR (bodyOf Tryz.f56))))))) (h := .s (gq56.S1)) (P := Tryz.prog) (E := gq56.E) (by kernel_rfl) h
theorem gq56.hok (hE : EOk Tryz.prog (gq56.E)) : HintOk Tryz.prog gq56.E (bodyOf Tryz.f56) (.n (.a) (.n (.a) (.n (.n (.a) (.b (.s (gq56.S1)))) (.a)))) := HintOk.n1 (Q := (True) ∧ ((True) ∧ (((True) ∧ (SumOk Tryz.prog gq56.E (cB (cR (cL (cR (cR (bodyOf Tryz.f56)))))) (gq56.S1))) ∧ (True)))) (by kernel_rfl) ⟨trivial, ⟨trivial, ⟨⟨trivial, (gq56.ok1 hE)⟩, trivial⟩⟩⟩
theorem gq56.hE : EOk Tryz.prog (gq56.E) := EOk.of ttOk (⟨gq108.fok, trivial⟩)
theorem gq56.fok : FOk Tryz.prog 56 gq56.fi :=
 fokS (E := gq56.E) (wy := ⟨[[none]], [[], []], []⟩) (h := (fun gs => .n (.a) (.n (.a) (.n (.n (.a) (.b (.s (gq56.S1)))) (.a))))) (G := fun t g => gq56.F (fun y0 => g y0) t.1 t.2.1) (by kernel_rfl) gq56.hE Tryz.func56 (by kernel_rfl) rfl (Nat.le_refl _) (fun t => HintOk.n1 (by kernel_rfl) (gq56.hok gq56.hE)) (fun t g => gq56.F_nat g (fun y0 => some y0) _ _) (fun t => by kernel_rfl)
def gq14.F {R : Type} (kk : Bool → Option R) (a_Room : Int) (a_Files : List (El kFile)) (b_Room : Int) (b_Files : List (El kFile)) : Option R :=
 cond (a_Room != b_Room) (kk false) (
  (gq56 a_Files b_Files).bind fun r =>
  cond (!r) (kk false) (kk true))
theorem gq14.F_nat {R S : Type} (g : R → Option S) (kk : Bool → Option R) (a_Room a_Files b_Room b_Files) : gq14.F (fun y0 => (kk y0).bind g) a_Room a_Files b_Room b_Files = (gq14.F kk a_Room a_Files b_Room b_Files).bind g := by
 simp only [gq14.F, grd_bind, cnd_bind, bnd_bind, non_bind]
def gq14 (a_Room : Int) (a_Files : List (El kFile)) (b_Room : Int) (b_Files : List (El kFile)) : Option Bool := gq14.F (fun y0 => some y0) a_Room a_Files b_Room b_Files
def gq14.out : Bool → CRes := fun a => ⟨encL SV.enc [.one (.bool)] (a, ()), [encL SC.enc [] (), encL SC.enc [] ()]⟩
def gq14.ps : List PS := [.val [none, some (kFile, false)], .val [none, some (kFile, false)]]
def gq14.sA : List SA := [.v (.agg [.int .i64, .slv [] kFile]), .v (.agg [.int .i64, .slv [] kFile])]
def gq14.fi : FI := FIs gq14.sA (Bool) (fun t => gq14 t.1.1 t.1.2.1 t.2.1.1 t.2.1.2.1) gq14.out gq14.ps
def gq14.E : Env := ⟨tt, lkF [(56, gq56.fi)], 16, 0, [], []⟩
theorem gq14.hok (hE : EOk Tryz.prog (gq14.E)) : HintOk Tryz.prog gq14.E (bodyOf Tryz.f14) (.a) := HintOk.n1 (Q := True) (by kernel_rfl) trivial
theorem gq14.hE : EOk Tryz.prog (gq14.E) := EOk.of ttOk (⟨gq56.fok, trivial⟩)
theorem gq14.fok : FOk Tryz.prog 14 gq14.fi :=
 fokS (E := gq14.E) (wy := ⟨[[none]], [[], []], []⟩) (h := (fun gs => .a)) (G := fun t g => gq14.F (fun y0 => g y0) t.1.1 t.1.2.1 t.2.1.1 t.2.1.2.1) (by kernel_rfl) gq14.hE Tryz.func14 (by kernel_rfl) rfl (Nat.le_refl _) (fun t => HintOk.n1 (by kernel_rfl) (gq14.hok gq14.hE)) (fun t g => gq14.F_nat g (fun y0 => some y0) _ _ _ _) (fun t => by kernel_rfl)
def gq109.l1 {R : Type} (kke0 : ByteArray → Option R) : Nat → Int → ByteArray → Option R
 | 0, _, _ => none
 | n + 1, k_, out =>
  cond (decide (k_ > (0 : Int))) (
   grd (gNz (10 : Int)) <|
   grd (gCat (strL [IntKind.wrap .u8 (IntKind.wrap .i64 ((48 : Int) + (Int.tmod k_ (10 : Int))))]) out) <|
   grd (gNz (10 : Int)) <|
   gq109.l1 kke0 n (IntKind.wrap .i64 (Int.tdiv k_ (10 : Int))) ((strL [IntKind.wrap .u8 (IntKind.wrap .i64 ((48 : Int) + (Int.tmod k_ (10 : Int))))]) ++ out)) (kke0 out)
theorem gq109.l1_nat {R S : Type} (g : R → Option S) (kke0 : ByteArray → Option R) : ∀ n k_ out, gq109.l1 (fun y0 => (kke0 y0).bind g) n k_ out = (gq109.l1 kke0 n k_ out).bind g := by
 intro n
 induction n with
 | zero => intros; rfl
 | succ n ih => intros; simp only [gq109.l1, grd_bind, cnd_bind, bnd_bind, non_bind, ih]
def gq109.F {R : Type} (kk : ByteArray → Option R) (k_ : Int) : Option R :=
 cond (decide (k_ ≤ (0 : Int))) (kk (⟨#[109, 48]⟩ : ByteArray)) (
  gq109.l1 (fun out =>
   grd (gCat (⟨#[109]⟩ : ByteArray) out) <|
   kk ((⟨#[109]⟩ : ByteArray) ++ out)) fuel k_ ByteArray.empty)
theorem gq109.F_nat {R S : Type} (g : R → Option S) (kk : ByteArray → Option R) (k_) : gq109.F (fun y0 => (kk y0).bind g) k_ = (gq109.F kk k_).bind g := by
 simp only [gq109.F, grd_bind, cnd_bind, bnd_bind, non_bind, ← gq109.l1_nat]
def gq109 (k_ : Int) : Option ByteArray := gq109.F (fun y0 => some y0) k_
def gq109.out : ByteArray → CRes := fun a => ⟨encL SV.enc [.one (.str)] (a, ()), [encL SC.enc [] ()]⟩
def gq109.ps : List PS := [.val [none]]
def gq109.sA : List SA := [.v (.one (.int .i64))]
def gq109.fi : FI := FIs gq109.sA (ByteArray) (fun t => gq109 t.1) gq109.out gq109.ps
def gq109.E : Env := ⟨tt, lkF [], 20, 0, [], []⟩
def gq109.sh1 : SK := ⟨[.v (.one (.int .i64)), .v (.one (.str))], []⟩
def gq109.sh1e0 : SK := ⟨[.v (.one (.str))], []⟩
def gq109.ko1 : Ex → List CastAt × List Nat
 | .nrm => ([], [])
 | .ret => ([], [])
 | .ext i => cond (Nat.beq i 0) ([], [3]) ([], [])
def gq109.G1 (n : Nat) (R : Type) (t : gq109.sh1.T) (K : Ex → Kp → Option R) : Option R := gq109.l1 (fun y0 => K (.ext 0) (SK.enc gq109.sh1e0 ((y0, ()), ()))) n t.1.1 t.1.2.1
def gq109.S1 : Sum := ⟨([], [0, 3]), sumF gq109.sh1 (gq109.G1 fuel), gq109.ko1⟩
theorem gq109.ok1 (hE : EOk Tryz.prog (gq109.E)) : SumOk Tryz.prog gq109.E (cB (cL (cR (cR (cR (bodyOf Tryz.f109)))))) (gq109.S1) := by
 have hh : HintOk Tryz.prog gq109.E (cB (cB (cL (cR (cR (cR (bodyOf Tryz.f109))))))) (.a) := HintOk.n1 (Q := True) (by kernel_rfl) trivial
 have h := loopS (kin := ([], [0, 3])) (kout := gq109.ko1) (sh := gq109.sh1) (F := gq109.G1) (ops_ok (hE.gv _)) (by kernel_rfl) hh (fun _ _ _ => rfl) (fun n R t K => by kernel_rfl) fuel
 exact HintOk.n1 (c := (cB (cL (cR (cR (cR (bodyOf Tryz.f109))))))) (h := .s (gq109.S1)) (P := Tryz.prog) (E := gq109.E) (by kernel_rfl) h
theorem gq109.hok (hE : EOk Tryz.prog (gq109.E)) : HintOk Tryz.prog gq109.E (bodyOf Tryz.f109) (.n (.a) (.n (.a) (.n (.a) (.n (.b (.s (gq109.S1))) (.a))))) := HintOk.n1 (Q := (True) ∧ ((True) ∧ ((True) ∧ ((SumOk Tryz.prog gq109.E (cB (cL (cR (cR (cR (bodyOf Tryz.f109)))))) (gq109.S1)) ∧ (True))))) (by kernel_rfl) ⟨trivial, ⟨trivial, ⟨trivial, ⟨(gq109.ok1 hE), trivial⟩⟩⟩⟩
theorem gq109.hE : EOk Tryz.prog (gq109.E) := EOk.of ttOk (trivial)
theorem gq109.fok : FOk Tryz.prog 109 gq109.fi :=
 fokS (E := gq109.E) (wy := ⟨[[none]], [[]], []⟩) (h := (fun gs => .n (.a) (.n (.a) (.n (.a) (.n (.b (.s (gq109.S1))) (.a)))))) (G := fun t g => gq109.F (fun y0 => g y0) t.1) (by kernel_rfl) gq109.hE Tryz.func109 (by kernel_rfl) rfl (Nat.le_refl _) (fun t => HintOk.n1 (by kernel_rfl) (gq109.hok gq109.hE)) (fun t g => gq109.F_nat g (fun y0 => some y0) _) (fun t => by kernel_rfl)
def gq57.l1 {R : Type} (kke0 : Int → List (El kFile) → Option R) : Nat → Int → Int → List (El kFile) → Option R
 | 0, _, _, _ => none
 | n + 1, k_, i, a =>
  cond (decide (i < (List.length a : Int))) (
   (gq109 k_).bind fun r =>
   grd (gIx i (List.length a)) <|
   (gq109 (IntKind.wrap .i64 (k_ + (1 : Int)))).bind fun r1 =>
   grd (gIx i (List.length (setE kFile a (Int.toNat i) (r, (rdE kFile a (Int.toNat i)).2)))) <|
   grd (gIx i (List.length (setE kFile (setE kFile a (Int.toNat i) (r, (rdE kFile a (Int.toNat i)).2)) (Int.toNat i) ((rdE kFile (setE kFile a (Int.toNat i) (r, (rdE kFile a (Int.toNat i)).2)) (Int.toNat i)).1, (r1, (rdE kFile (setE kFile a (Int.toNat i) (r, (rdE kFile a (Int.toNat i)).2)) (Int.toNat i)).2.2))))) <|
   gq57.l1 kke0 n (IntKind.wrap .i64 ((IntKind.wrap .i64 ((IntKind.wrap .i64 (k_ + (1 : Int))) + (1 : Int))) + (1 : Int))) (IntKind.wrap .i64 (i + (1 : Int))) (setE kFile (setE kFile (setE kFile a (Int.toNat i) (r, (rdE kFile a (Int.toNat i)).2)) (Int.toNat i) ((rdE kFile (setE kFile a (Int.toNat i) (r, (rdE kFile a (Int.toNat i)).2)) (Int.toNat i)).1, (r1, (rdE kFile (setE kFile a (Int.toNat i) (r, (rdE kFile a (Int.toNat i)).2)) (Int.toNat i)).2.2))) (Int.toNat i) ((rdE kFile (setE kFile (setE kFile a (Int.toNat i) (r, (rdE kFile a (Int.toNat i)).2)) (Int.toNat i) ((rdE kFile (setE kFile a (Int.toNat i) (r, (rdE kFile a (Int.toNat i)).2)) (Int.toNat i)).1, (r1, (rdE kFile (setE kFile a (Int.toNat i) (r, (rdE kFile a (Int.toNat i)).2)) (Int.toNat i)).2.2))) (Int.toNat i)).1, ((rdE kFile (setE kFile (setE kFile a (Int.toNat i) (r, (rdE kFile a (Int.toNat i)).2)) (Int.toNat i) ((rdE kFile (setE kFile a (Int.toNat i) (r, (rdE kFile a (Int.toNat i)).2)) (Int.toNat i)).1, (r1, (rdE kFile (setE kFile a (Int.toNat i) (r, (rdE kFile a (Int.toNat i)).2)) (Int.toNat i)).2.2))) (Int.toNat i)).2.1, IntKind.wrap .i64 ((IntKind.wrap .i64 (k_ + (1 : Int))) + (1 : Int)))))) (kke0 k_ a)
theorem gq57.l1_nat {R S : Type} (g : R → Option S) (kke0 : Int → List (El kFile) → Option R) : ∀ n k_ i a, gq57.l1 (fun y0 y1 => (kke0 y0 y1).bind g) n k_ i a = (gq57.l1 kke0 n k_ i a).bind g := by
 intro n
 induction n with
 | zero => intros; rfl
 | succ n ih => intros; simp only [gq57.l1, grd_bind, cnd_bind, bnd_bind, non_bind, ih]
def gq57.F {R : Type} (kk : Int → List (El kFile) → Option R) (a : List (El kFile)) (k_ : Int) : Option R :=
 gq57.l1 (fun k_1 a1 => kk k_1 a1) fuel k_ (0 : Int) a
theorem gq57.F_nat {R S : Type} (g : R → Option S) (kk : Int → List (El kFile) → Option R) (a k_) : gq57.F (fun y0 y1 => (kk y0 y1).bind g) a k_ = (gq57.F kk a k_).bind g := by
 simp only [gq57.F, grd_bind, cnd_bind, bnd_bind, non_bind, ← gq57.l1_nat]
def gq57 (a : List (El kFile)) (k_ : Int) : Option (Int × List (El kFile)) := gq57.F (fun y0 y1 => some (y0, y1)) a k_
def gq57.out : (Int × List (El kFile)) → CRes := fun a => ⟨encL SV.enc [.one (.int .i64)] (a.1, ()), [encL SC.enc [.own [] kFile true] (a.2, ()), encL SC.enc [] ()]⟩
def gq57.ps : List PS := [.val [some (kFile, true)], .val [none]]
def gq57.sA : List SA := [.v (.one (.own [] kFile true)), .v (.one (.int .i64))]
def gq57.fi : FI := FIs gq57.sA (Int × List (El kFile)) (fun t => gq57 t.1 t.2.1) gq57.out gq57.ps
def gq57.E : Env := ⟨tt, lkF [(109, gq109.fi)], 36, 1, [], []⟩
def gq57.sh1 : SK := ⟨[.v (.one (.slo 0)), .v (.one (.int .i64)), .v (.one (.int .i64))], [.arr kFile [] true]⟩
def gq57.sh1e0 : SK := ⟨[.v (.one (.int .i64))], [.arr kFile [] true]⟩
def gq57.ko1 : Ex → List CastAt × List Nat
 | .nrm => ([], [])
 | .ret => ([], [])
 | .ext i => cond (Nat.beq i 0) ([], [1]) ([], [])
def gq57.G1 (n : Nat) (R : Type) (t : gq57.sh1.T) (K : Ex → Kp → Option R) : Option R := gq57.l1 (fun y0 y1 => K (.ext 0) (SK.enc gq57.sh1e0 ((y0, ()), (y1, ())))) n t.1.2.1 t.1.2.2.1 t.2.1
def gq57.S1 : Sum := ⟨([], [0, 1, 5]), sumF gq57.sh1 (gq57.G1 fuel), gq57.ko1⟩
theorem gq57.ok1 (hE : EOk Tryz.prog (gq57.E)) : SumOk Tryz.prog gq57.E (cB (cR (cL (cR (bodyOf Tryz.f57))))) (gq57.S1) := by
 have hh : HintOk Tryz.prog gq57.E (cB (cB (cR (cL (cR (bodyOf Tryz.f57)))))) (.a) := HintOk.n1 (Q := True) (by kernel_rfl) trivial
 have h := loopS (kin := ([], [0, 1, 5])) (kout := gq57.ko1) (sh := gq57.sh1) (F := gq57.G1) (ops_ok (hE.gv _)) (by kernel_rfl) hh (fun _ _ _ => rfl) (fun n R t K => by kernel_rfl) fuel
 exact HintOk.n1 (c := (cB (cR (cL (cR (bodyOf Tryz.f57)))))) (h := .s (gq57.S1)) (P := Tryz.prog) (E := gq57.E) (by kernel_rfl) h
theorem gq57.hok (hE : EOk Tryz.prog (gq57.E)) : HintOk Tryz.prog gq57.E (bodyOf Tryz.f57) (.n (.a) (.n (.n (.a) (.b (.s (gq57.S1)))) (.a))) := HintOk.n1 (Q := (True) ∧ (((True) ∧ (SumOk Tryz.prog gq57.E (cB (cR (cL (cR (bodyOf Tryz.f57))))) (gq57.S1))) ∧ (True))) (by kernel_rfl) ⟨trivial, ⟨⟨trivial, (gq57.ok1 hE)⟩, trivial⟩⟩
theorem gq57.hE : EOk Tryz.prog (gq57.E) := EOk.of ttOk (⟨gq109.fok, trivial⟩)
theorem gq57.fok : FOk Tryz.prog 57 gq57.fi :=
 fokS (E := gq57.E) (wy := ⟨[[none]], [[], []], []⟩) (h := (fun gs => .n (.a) (.n (.n (.a) (.b (.s (gq57.S1)))) (.a)))) (G := fun t g => gq57.F (fun y0 y1 => g (y0, y1)) t.1 t.2.1) (by kernel_rfl) gq57.hE Tryz.func57 (by kernel_rfl) rfl (Nat.le_refl _) (fun t => HintOk.n1 (by kernel_rfl) (gq57.hok gq57.hE)) (fun t g => gq57.F_nat g (fun y0 y1 => some (y0, y1)) _ _) (fun t => by kernel_rfl)
def gq15.F {R : Type} (kk : Int → List (El kFile) → Option R) (a_Room : Int) (a_Files : List (El kFile)) (k_ : Int) : Option R :=
 (gq57 a_Files k_).bind fun r =>
 kk r.1 r.2
theorem gq15.F_nat {R S : Type} (g : R → Option S) (kk : Int → List (El kFile) → Option R) (a_Room a_Files k_) : gq15.F (fun y0 y1 => (kk y0 y1).bind g) a_Room a_Files k_ = (gq15.F kk a_Room a_Files k_).bind g := by
 simp only [gq15.F, grd_bind, cnd_bind, bnd_bind, non_bind]
def gq15 (a_Room : Int) (a_Files : List (El kFile)) (k_ : Int) : Option (Int × List (El kFile)) := gq15.F (fun y0 y1 => some (y0, y1)) a_Room a_Files k_
def gq15.out : (Int × List (El kFile)) → CRes := fun a => ⟨encL SV.enc [.one (.int .i64)] (a.1, ()), [encL SC.enc [.own [] kFile true] (a.2, ()), encL SC.enc [] ()]⟩
def gq15.ps : List PS := [.val [none, some (kFile, true)], .val [none]]
def gq15.sA : List SA := [.v (.agg [.int .i64, .own [] kFile true]), .v (.one (.int .i64))]
def gq15.fi : FI := FIs gq15.sA (Int × List (El kFile)) (fun t => gq15 t.1.1 t.1.2.1 t.2.1) gq15.out gq15.ps
def gq15.E : Env := ⟨tt, lkF [(57, gq57.fi)], 10, 1, [], []⟩
theorem gq15.hok (hE : EOk Tryz.prog (gq15.E)) : HintOk Tryz.prog gq15.E (bodyOf Tryz.f15) (.a) := HintOk.n1 (Q := True) (by kernel_rfl) trivial
theorem gq15.hE : EOk Tryz.prog (gq15.E) := EOk.of ttOk (⟨gq57.fok, trivial⟩)
theorem gq15.fok : FOk Tryz.prog 15 gq15.fi :=
 fokS (E := gq15.E) (wy := ⟨[[none]], [[], []], []⟩) (h := (fun gs => .a)) (G := fun t g => gq15.F (fun y0 y1 => g (y0, y1)) t.1.1 t.1.2.1 t.2.1) (by kernel_rfl) gq15.hE Tryz.func15 (by kernel_rfl) rfl (Nat.le_refl _) (fun t => HintOk.n1 (by kernel_rfl) (gq15.hok gq15.hE)) (fun t g => gq15.F_nat g (fun y0 y1 => some (y0, y1)) _ _ _) (fun t => by kernel_rfl)
def gq58.l1 {R : Type} (kke0 : Int → Option R) (kkr : Int → Option R) : Nat → List (El kFile) → Int → Int → Option R
 | 0, _, _, _ => none
 | n + 1, a, k_, i =>
  cond (decide (i < (List.length a : Int))) (
   grd (gIx i (List.length a)) <|
   (gq109 k_).bind fun r =>
   cond (!(sEq (rdE kFile a (Int.toNat i)).1 r)) (kkr (-1 : Int)) (
    grd (gIx i (List.length a)) <|
    (gq109 (IntKind.wrap .i64 (k_ + (1 : Int)))).bind fun r1 =>
    cond (!(sEq (rdE kFile a (Int.toNat i)).2.1 r1)) (kkr (-1 : Int)) (
     grd (gIx i (List.length a)) <|
     cond ((rdE kFile a (Int.toNat i)).2.2 != (IntKind.wrap .i64 ((IntKind.wrap .i64 (k_ + (1 : Int))) + (1 : Int)))) (kkr (-1 : Int)) (
      gq58.l1 kke0 kkr n a (IntKind.wrap .i64 ((IntKind.wrap .i64 ((IntKind.wrap .i64 (k_ + (1 : Int))) + (1 : Int))) + (1 : Int))) (IntKind.wrap .i64 (i + (1 : Int))))))) (kke0 k_)
theorem gq58.l1_nat {R S : Type} (g : R → Option S) (kke0 : Int → Option R) (kkr : Int → Option R) : ∀ n a k_ i, gq58.l1 (fun y0 => (kke0 y0).bind g) (fun y0 => (kkr y0).bind g) n a k_ i = (gq58.l1 kke0 kkr n a k_ i).bind g := by
 intro n
 induction n with
 | zero => intros; rfl
 | succ n ih => intros; simp only [gq58.l1, grd_bind, cnd_bind, bnd_bind, non_bind, ih]
def gq58.F {R : Type} (kk : Int → Option R) (a : List (El kFile)) (k_ : Int) : Option R :=
 gq58.l1 (fun k_1 => kk k_1) (fun i => kk i) fuel a k_ (0 : Int)
theorem gq58.F_nat {R S : Type} (g : R → Option S) (kk : Int → Option R) (a k_) : gq58.F (fun y0 => (kk y0).bind g) a k_ = (gq58.F kk a k_).bind g := by
 simp only [gq58.F, grd_bind, cnd_bind, bnd_bind, non_bind, ← gq58.l1_nat]
def gq58 (a : List (El kFile)) (k_ : Int) : Option Int := gq58.F (fun y0 => some y0) a k_
def gq58.out : Int → CRes := fun a => ⟨encL SV.enc [.one (.int .i64)] (a, ()), [encL SC.enc [] (), encL SC.enc [] ()]⟩
def gq58.ps : List PS := [.val [some (kFile, false)], .val [none]]
def gq58.sA : List SA := [.v (.one (.slv [] kFile)), .v (.one (.int .i64))]
def gq58.fi : FI := FIs gq58.sA (Int) (fun t => gq58 t.1 t.2.1) gq58.out gq58.ps
def gq58.E : Env := ⟨tt, lkF [(109, gq109.fi)], 42, 0, [], []⟩
def gq58.sh1 : SK := ⟨[.v (.one (.slv [1] kFile)), .v (.one (.int .i64)), .v (.one (.int .i64))], []⟩
def gq58.sh1e0 : SK := ⟨[.v (.one (.int .i64))], []⟩
def gq58.sh1r : SK := ⟨[.v (.one (.int .i64))], []⟩
def gq58.ko1 : Ex → List CastAt × List Nat
 | .nrm => ([], [])
 | .ret => ([], [4])
 | .ext i => cond (Nat.beq i 0) ([], [1]) ([], [])
def gq58.G1 (n : Nat) (R : Type) (t : gq58.sh1.T) (K : Ex → Kp → Option R) : Option R := gq58.l1 (fun y0 => K (.ext 0) (SK.enc gq58.sh1e0 ((y0, ()), ()))) (fun y0 => K .ret (SK.enc gq58.sh1r ((y0, ()), ()))) n t.1.1 t.1.2.1 t.1.2.2.1
def gq58.S1 : Sum := ⟨([], [0, 1, 5]), sumF gq58.sh1 (gq58.G1 fuel), gq58.ko1⟩
theorem gq58.ok1 (hE : EOk Tryz.prog (gq58.E)) : SumOk Tryz.prog gq58.E (cB (cR (cL (cR (bodyOf Tryz.f58))))) (gq58.S1) := by
 have hh : HintOk Tryz.prog gq58.E (cB (cB (cR (cL (cR (bodyOf Tryz.f58)))))) (.a) := HintOk.n1 (Q := True) (by kernel_rfl) trivial
 have h := loopS (kin := ([], [0, 1, 5])) (kout := gq58.ko1) (sh := gq58.sh1) (F := gq58.G1) (ops_ok (hE.gv _)) (by kernel_rfl) hh (fun _ _ _ => rfl) (fun n R t K => by kernel_rfl) fuel
 exact HintOk.n1 (c := (cB (cR (cL (cR (bodyOf Tryz.f58)))))) (h := .s (gq58.S1)) (P := Tryz.prog) (E := gq58.E) (by kernel_rfl) h
theorem gq58.hok (hE : EOk Tryz.prog (gq58.E)) : HintOk Tryz.prog gq58.E (bodyOf Tryz.f58) (.n (.a) (.n (.n (.a) (.b (.s (gq58.S1)))) (.a))) := HintOk.n1 (Q := (True) ∧ (((True) ∧ (SumOk Tryz.prog gq58.E (cB (cR (cL (cR (bodyOf Tryz.f58))))) (gq58.S1))) ∧ (True))) (by kernel_rfl) ⟨trivial, ⟨⟨trivial, (gq58.ok1 hE)⟩, trivial⟩⟩
theorem gq58.hE : EOk Tryz.prog (gq58.E) := EOk.of ttOk (⟨gq109.fok, trivial⟩)
theorem gq58.fok : FOk Tryz.prog 58 gq58.fi :=
 fokS (E := gq58.E) (wy := ⟨[[none]], [[], []], []⟩) (h := (fun gs => .n (.a) (.n (.n (.a) (.b (.s (gq58.S1)))) (.a)))) (G := fun t g => gq58.F (fun y0 => g y0) t.1 t.2.1) (by kernel_rfl) gq58.hE Tryz.func58 (by kernel_rfl) rfl (Nat.le_refl _) (fun t => HintOk.n1 (by kernel_rfl) (gq58.hok gq58.hE)) (fun t g => gq58.F_nat g (fun y0 => some y0) _ _) (fun t => by kernel_rfl)
def gq16.F {R : Type} (kk : Int → Option R) (a_Room : Int) (a_Files : List (El kFile)) (k_ : Int) : Option R :=
 (gq58 a_Files k_).bind fun r =>
 cond (decide (r < (0 : Int))) (kk (-1 : Int)) (kk r)
theorem gq16.F_nat {R S : Type} (g : R → Option S) (kk : Int → Option R) (a_Room a_Files k_) : gq16.F (fun y0 => (kk y0).bind g) a_Room a_Files k_ = (gq16.F kk a_Room a_Files k_).bind g := by
 simp only [gq16.F, grd_bind, cnd_bind, bnd_bind, non_bind]
def gq16 (a_Room : Int) (a_Files : List (El kFile)) (k_ : Int) : Option Int := gq16.F (fun y0 => some y0) a_Room a_Files k_
def gq16.out : Int → CRes := fun a => ⟨encL SV.enc [.one (.int .i64)] (a, ()), [encL SC.enc [] (), encL SC.enc [] ()]⟩
def gq16.ps : List PS := [.val [none, some (kFile, false)], .val [none]]
def gq16.sA : List SA := [.v (.agg [.int .i64, .slv [] kFile]), .v (.one (.int .i64))]
def gq16.fi : FI := FIs gq16.sA (Int) (fun t => gq16 t.1.1 t.1.2.1 t.2.1) gq16.out gq16.ps
def gq16.E : Env := ⟨tt, lkF [(58, gq58.fi)], 12, 0, [], []⟩
theorem gq16.hok (hE : EOk Tryz.prog (gq16.E)) : HintOk Tryz.prog gq16.E (bodyOf Tryz.f16) (.a) := HintOk.n1 (Q := True) (by kernel_rfl) trivial
theorem gq16.hE : EOk Tryz.prog (gq16.E) := EOk.of ttOk (⟨gq58.fok, trivial⟩)
theorem gq16.fok : FOk Tryz.prog 16 gq16.fi :=
 fokS (E := gq16.E) (wy := ⟨[[none]], [[], []], []⟩) (h := (fun gs => .a)) (G := fun t g => gq16.F (fun y0 => g y0) t.1.1 t.1.2.1 t.2.1) (by kernel_rfl) gq16.hE Tryz.func16 (by kernel_rfl) rfl (Nat.le_refl _) (fun t => HintOk.n1 (by kernel_rfl) (gq16.hok gq16.hE)) (fun t g => gq16.F_nat g (fun y0 => some y0) _ _ _) (fun t => by kernel_rfl)
def gq131.F {R : Type} (kk : Int → Option R) (a_Term : Int) (a_Kind : Int) (a_Data : ByteArray) (left : Int) : Option R :=
 cond (decide ((IntKind.wrap .i64 (left - (ByteArray.size a_Data : Int))) < (0 : Int))) (kk (-1 : Int)) (kk (IntKind.wrap .i64 (left - (ByteArray.size a_Data : Int))))
theorem gq131.F_nat {R S : Type} (g : R → Option S) (kk : Int → Option R) (a_Term a_Kind a_Data left) : gq131.F (fun y0 => (kk y0).bind g) a_Term a_Kind a_Data left = (gq131.F kk a_Term a_Kind a_Data left).bind g := by
 simp only [gq131.F, grd_bind, cnd_bind, bnd_bind, non_bind]
def gq131 (a_Term : Int) (a_Kind : Int) (a_Data : ByteArray) (left : Int) : Option Int := gq131.F (fun y0 => some y0) a_Term a_Kind a_Data left
def gq131.out : Int → CRes := fun a => ⟨encL SV.enc [.one (.int .i64)] (a, ()), [encL SC.enc [] (), encL SC.enc [] ()]⟩
def gq131.ps : List PS := [.val [none, none, none], .val [none]]
def gq131.sA : List SA := [.v (.agg [.int .i64, .int .i64, .str]), .v (.one (.int .i64))]
def gq131.fi : FI := FIs gq131.sA (Int) (fun t => gq131 t.1.1 t.1.2.1 t.1.2.2.1 t.2.1) gq131.out gq131.ps
def gq131.E : Env := ⟨tt, lkF [], 13, 0, [], []⟩
theorem gq131.hok (hE : EOk Tryz.prog (gq131.E)) : HintOk Tryz.prog gq131.E (bodyOf Tryz.f131) (.a) := HintOk.n1 (Q := True) (by kernel_rfl) trivial
theorem gq131.hE : EOk Tryz.prog (gq131.E) := EOk.of ttOk (trivial)
theorem gq131.fok : FOk Tryz.prog 131 gq131.fi :=
 fokS (E := gq131.E) (wy := ⟨[[none]], [[], []], []⟩) (h := (fun gs => .a)) (G := fun t g => gq131.F (fun y0 => g y0) t.1.1 t.1.2.1 t.1.2.2.1 t.2.1) (by kernel_rfl) gq131.hE Tryz.func131 (by kernel_rfl) rfl (Nat.le_refl _) (fun t => HintOk.n1 (by kernel_rfl) (gq131.hok gq131.hE)) (fun t g => gq131.F_nat g (fun y0 => some y0) _ _ _ _) (fun t => by kernel_rfl)
def gq78.l1 {R : Type} (kke0 : Int → Option R) (kkr : Int → Option R) : Nat → List (El kkb53) → Int → Int → Option R
 | 0, _, _, _ => none
 | n + 1, a, left, i =>
  cond (decide (i < (List.length a : Int))) (
   grd (gIx i (List.length a)) <|
   (gq131 ((rdE kkb53 a (Int.toNat i)).1) ((rdE kkb53 a (Int.toNat i)).2.1) ((rdE kkb53 a (Int.toNat i)).2.2) left).bind fun r =>
   cond (decide (r < (0 : Int))) (kkr (-1 : Int)) (gq78.l1 kke0 kkr n a r (IntKind.wrap .i64 (i + (1 : Int))))) (kke0 left)
theorem gq78.l1_nat {R S : Type} (g : R → Option S) (kke0 : Int → Option R) (kkr : Int → Option R) : ∀ n a left i, gq78.l1 (fun y0 => (kke0 y0).bind g) (fun y0 => (kkr y0).bind g) n a left i = (gq78.l1 kke0 kkr n a left i).bind g := by
 intro n
 induction n with
 | zero => intros; rfl
 | succ n ih => intros; simp only [gq78.l1, grd_bind, cnd_bind, bnd_bind, non_bind, ih]
def gq78.F {R : Type} (kk : Int → Option R) (a : List (El kkb53)) (left : Int) : Option R :=
 cond (decide ((IntKind.wrap .i64 (left - (List.length a : Int))) < (0 : Int))) (kk (-1 : Int)) (
  gq78.l1 (fun left1 => kk left1) (fun i => kk i) fuel a (IntKind.wrap .i64 (left - (List.length a : Int))) (0 : Int))
theorem gq78.F_nat {R S : Type} (g : R → Option S) (kk : Int → Option R) (a left) : gq78.F (fun y0 => (kk y0).bind g) a left = (gq78.F kk a left).bind g := by
 simp only [gq78.F, grd_bind, cnd_bind, bnd_bind, non_bind, ← gq78.l1_nat]
def gq78 (a : List (El kkb53)) (left : Int) : Option Int := gq78.F (fun y0 => some y0) a left
def gq78.out : Int → CRes := fun a => ⟨encL SV.enc [.one (.int .i64)] (a, ()), [encL SC.enc [] (), encL SC.enc [] ()]⟩
def gq78.ps : List PS := [.val [some (kkb53, false)], .val [none]]
def gq78.sA : List SA := [.v (.one (.slv [] kkb53)), .v (.one (.int .i64))]
def gq78.fi : FI := FIs gq78.sA (Int) (fun t => gq78 t.1 t.2.1) gq78.out gq78.ps
def gq78.E : Env := ⟨tt, lkF [(131, gq131.fi)], 27, 0, [], []⟩
def gq78.sh1 : SK := ⟨[.v (.one (.slv [1] kkb53)), .v (.one (.int .i64)), .v (.one (.int .i64))], []⟩
def gq78.sh1e0 : SK := ⟨[.v (.one (.int .i64))], []⟩
def gq78.sh1r : SK := ⟨[.v (.one (.int .i64))], []⟩
def gq78.ko1 : Ex → List CastAt × List Nat
 | .nrm => ([], [])
 | .ret => ([], [4])
 | .ext i => cond (Nat.beq i 0) ([], [1]) ([], [])
def gq78.G1 (n : Nat) (R : Type) (t : gq78.sh1.T) (K : Ex → Kp → Option R) : Option R := gq78.l1 (fun y0 => K (.ext 0) (SK.enc gq78.sh1e0 ((y0, ()), ()))) (fun y0 => K .ret (SK.enc gq78.sh1r ((y0, ()), ()))) n t.1.1 t.1.2.1 t.1.2.2.1
def gq78.S1 : Sum := ⟨([], [0, 1, 5]), sumF gq78.sh1 (gq78.G1 fuel), gq78.ko1⟩
theorem gq78.ok1 (hE : EOk Tryz.prog (gq78.E)) : SumOk Tryz.prog gq78.E (cB (cR (cL (cR (cR (cR (bodyOf Tryz.f78))))))) (gq78.S1) := by
 have hh : HintOk Tryz.prog gq78.E (cB (cB (cR (cL (cR (cR (cR (bodyOf Tryz.f78)))))))) (.a) := HintOk.n1 (Q := True) (by kernel_rfl) trivial
 have h := loopS (kin := ([], [0, 1, 5])) (kout := gq78.ko1) (sh := gq78.sh1) (F := gq78.G1) (ops_ok (hE.gv _)) (by kernel_rfl) hh (fun _ _ _ => rfl) (fun n R t K => by kernel_rfl) fuel
 exact HintOk.n1 (c := (cB (cR (cL (cR (cR (cR (bodyOf Tryz.f78)))))))) (h := .s (gq78.S1)) (P := Tryz.prog) (E := gq78.E) (by kernel_rfl) h
theorem gq78.hok (hE : EOk Tryz.prog (gq78.E)) : HintOk Tryz.prog gq78.E (bodyOf Tryz.f78) (.n (.a) (.n (.a) (.n (.a) (.n (.n (.a) (.b (.s (gq78.S1)))) (.a))))) := HintOk.n1 (Q := (True) ∧ ((True) ∧ ((True) ∧ (((True) ∧ (SumOk Tryz.prog gq78.E (cB (cR (cL (cR (cR (cR (bodyOf Tryz.f78))))))) (gq78.S1))) ∧ (True))))) (by kernel_rfl) ⟨trivial, ⟨trivial, ⟨trivial, ⟨⟨trivial, (gq78.ok1 hE)⟩, trivial⟩⟩⟩⟩
theorem gq78.hE : EOk Tryz.prog (gq78.E) := EOk.of ttOk (⟨gq131.fok, trivial⟩)
theorem gq78.fok : FOk Tryz.prog 78 gq78.fi :=
 fokS (E := gq78.E) (wy := ⟨[[none]], [[], []], []⟩) (h := (fun gs => .n (.a) (.n (.a) (.n (.a) (.n (.n (.a) (.b (.s (gq78.S1)))) (.a)))))) (G := fun t g => gq78.F (fun y0 => g y0) t.1 t.2.1) (by kernel_rfl) gq78.hE Tryz.func78 (by kernel_rfl) rfl (Nat.le_refl _) (fun t => HintOk.n1 (by kernel_rfl) (gq78.hok gq78.hE)) (fun t g => gq78.F_nat g (fun y0 => some y0) _ _) (fun t => by kernel_rfl)
def gq33.F {R : Type} (kk : Int → Option R) (a_Term : Int) (a_Vote : Int) (a_Log : List (El kkb53)) (left : Int) : Option R :=
 (gq78 a_Log left).bind fun r =>
 cond (decide (r < (0 : Int))) (kk (-1 : Int)) (kk r)
theorem gq33.F_nat {R S : Type} (g : R → Option S) (kk : Int → Option R) (a_Term a_Vote a_Log left) : gq33.F (fun y0 => (kk y0).bind g) a_Term a_Vote a_Log left = (gq33.F kk a_Term a_Vote a_Log left).bind g := by
 simp only [gq33.F, grd_bind, cnd_bind, bnd_bind, non_bind]
def gq33 (a_Term : Int) (a_Vote : Int) (a_Log : List (El kkb53)) (left : Int) : Option Int := gq33.F (fun y0 => some y0) a_Term a_Vote a_Log left
def gq33.out : Int → CRes := fun a => ⟨encL SV.enc [.one (.int .i64)] (a, ()), [encL SC.enc [] (), encL SC.enc [] ()]⟩
def gq33.ps : List PS := [.val [none, none, some (kkb53, false)], .val [none]]
def gq33.sA : List SA := [.v (.agg [.int .i64, .int .i64, .slv [] kkb53]), .v (.one (.int .i64))]
def gq33.fi : FI := FIs gq33.sA (Int) (fun t => gq33 t.1.1 t.1.2.1 t.1.2.2.1 t.2.1) gq33.out gq33.ps
def gq33.E : Env := ⟨tt, lkF [(78, gq78.fi)], 12, 0, [], []⟩
theorem gq33.hok (hE : EOk Tryz.prog (gq33.E)) : HintOk Tryz.prog gq33.E (bodyOf Tryz.f33) (.a) := HintOk.n1 (Q := True) (by kernel_rfl) trivial
theorem gq33.hE : EOk Tryz.prog (gq33.E) := EOk.of ttOk (⟨gq78.fok, trivial⟩)
theorem gq33.fok : FOk Tryz.prog 33 gq33.fi :=
 fokS (E := gq33.E) (wy := ⟨[[none]], [[], []], []⟩) (h := (fun gs => .a)) (G := fun t g => gq33.F (fun y0 => g y0) t.1.1 t.1.2.1 t.1.2.2.1 t.2.1) (by kernel_rfl) gq33.hE Tryz.func33 (by kernel_rfl) rfl (Nat.le_refl _) (fun t => HintOk.n1 (by kernel_rfl) (gq33.hok gq33.hE)) (fun t g => gq33.F_nat g (fun y0 => some y0) _ _ _ _) (fun t => by kernel_rfl)
def gq50.F {R : Type} (kk : Int → List (El kFile) → Option R) (d_Room : Int) (d_Files : List (El kFile)) : Option R :=
 grd (gRm (((List.length ([] : List (El kFile))) + (List.length d_Files)) * 40)) <|
 kk d_Room (([] : List (El kFile)) ++ d_Files)
theorem gq50.F_nat {R S : Type} (g : R → Option S) (kk : Int → List (El kFile) → Option R) (d_Room d_Files) : gq50.F (fun y0 y1 => (kk y0 y1).bind g) d_Room d_Files = (gq50.F kk d_Room d_Files).bind g := by
 simp only [gq50.F, grd_bind, cnd_bind, bnd_bind, non_bind]
def gq50 (d_Room : Int) (d_Files : List (El kFile)) : Option (Int × List (El kFile)) := gq50.F (fun y0 y1 => some (y0, y1)) d_Room d_Files
def gq50.out : (Int × List (El kFile)) → CRes := fun a => ⟨encL SV.enc [.agg [.int .i64, .own [] kFile true]] ((a.1, a.2, ()), ()), [encL SC.enc [] ()]⟩
def gq50.ps : List PS := [.val [none, some (kFile, false)]]
def gq50.sA : List SA := [.v (.agg [.int .i64, .slv [] kFile])]
def gq50.fi : FI := FIs gq50.sA (Int × List (El kFile)) (fun t => gq50 t.1.1 t.1.2.1) gq50.out gq50.ps
def gq50.E : Env := ⟨tt, lkF [], 10, 0, [], []⟩
theorem gq50.hok (hE : EOk Tryz.prog (gq50.E)) : HintOk Tryz.prog gq50.E (bodyOf Tryz.f50) (.a) := HintOk.n1 (Q := True) (by kernel_rfl) trivial
theorem gq50.hE : EOk Tryz.prog (gq50.E) := EOk.of ttOk (trivial)
theorem gq50.fok : FOk Tryz.prog 50 gq50.fi :=
 fokS (E := gq50.E) (wy := ⟨[[none, some (kFile, true)]], [[]], []⟩) (h := (fun gs => .a)) (G := fun t g => gq50.F (fun y0 y1 => g (y0, y1)) t.1.1 t.1.2.1) (by kernel_rfl) gq50.hE Tryz.func50 (by kernel_rfl) rfl (Nat.le_refl _) (fun t => HintOk.n1 (by kernel_rfl) (gq50.hok gq50.hE)) (fun t g => gq50.F_nat g (fun y0 y1 => some (y0, y1)) _ _) (fun t => by kernel_rfl)
def gq59.F {R : Type} (kk : Bool → Option R) (n_ : Int) (low : Int) (high : Int) : Option R :=
 cond (decide (n_ ≥ low)) (kk (decide (n_ ≤ high))) (kk false)
theorem gq59.F_nat {R S : Type} (g : R → Option S) (kk : Bool → Option R) (n_ low high) : gq59.F (fun y0 => (kk y0).bind g) n_ low high = (gq59.F kk n_ low high).bind g := by
 simp only [gq59.F, grd_bind, cnd_bind, bnd_bind, non_bind]
def gq59 (n_ : Int) (low : Int) (high : Int) : Option Bool := gq59.F (fun y0 => some y0) n_ low high
def gq59.out : Bool → CRes := fun a => ⟨encL SV.enc [.one (.bool)] (a, ()), [encL SC.enc [] (), encL SC.enc [] (), encL SC.enc [] ()]⟩
def gq59.ps : List PS := [.val [none], .val [none], .val [none]]
def gq59.sA : List SA := [.v (.one (.int .i64)), .v (.one (.int .i64)), .v (.one (.int .i64))]
def gq59.fi : FI := FIs gq59.sA (Bool) (fun t => gq59 t.1 t.2.1 t.2.2.1) gq59.out gq59.ps
def gq59.E : Env := ⟨tt, lkF [], 15, 0, [], []⟩
theorem gq59.hok (hE : EOk Tryz.prog (gq59.E)) : HintOk Tryz.prog gq59.E (bodyOf Tryz.f59) (.a) := HintOk.n1 (Q := True) (by kernel_rfl) trivial
theorem gq59.hE : EOk Tryz.prog (gq59.E) := EOk.of ttOk (trivial)
theorem gq59.fok : FOk Tryz.prog 59 gq59.fi :=
 fokS (E := gq59.E) (wy := ⟨[[none]], [[], [], []], []⟩) (h := (fun gs => .a)) (G := fun t g => gq59.F (fun y0 => g y0) t.1 t.2.1 t.2.2.1) (by kernel_rfl) gq59.hE Tryz.func59 (by kernel_rfl) rfl (Nat.le_refl _) (fun t => HintOk.n1 (by kernel_rfl) (gq59.hok gq59.hE)) (fun t g => gq59.F_nat g (fun y0 => some y0) _ _ _) (fun t => by kernel_rfl)
def gq158.F {R : Type} (kk : Bool → Option R) (c : Int) : Option R :=
 cond (decide (c ≥ (48 : Int))) (kk (decide (c ≤ (57 : Int)))) (kk false)
theorem gq158.F_nat {R S : Type} (g : R → Option S) (kk : Bool → Option R) (c) : gq158.F (fun y0 => (kk y0).bind g) c = (gq158.F kk c).bind g := by
 simp only [gq158.F, grd_bind, cnd_bind, bnd_bind, non_bind]
def gq158 (c : Int) : Option Bool := gq158.F (fun y0 => some y0) c
def gq158.out : Bool → CRes := fun a => ⟨encL SV.enc [.one (.bool)] (a, ()), [encL SC.enc [] ()]⟩
def gq158.ps : List PS := [.val [none]]
def gq158.sA : List SA := [.v (.one (.int .u8))]
def gq158.fi : FI := FIs gq158.sA (Bool) (fun t => gq158 t.1) gq158.out gq158.ps
def gq158.E : Env := ⟨tt, lkF [], 9, 0, [], []⟩
theorem gq158.hok (hE : EOk Tryz.prog (gq158.E)) : HintOk Tryz.prog gq158.E (bodyOf Tryz.f158) (.a) := HintOk.n1 (Q := True) (by kernel_rfl) trivial
theorem gq158.hE : EOk Tryz.prog (gq158.E) := EOk.of ttOk (trivial)
theorem gq158.fok : FOk Tryz.prog 158 gq158.fi :=
 fokS (E := gq158.E) (wy := ⟨[[none]], [[]], []⟩) (h := (fun gs => .a)) (G := fun t g => gq158.F (fun y0 => g y0) t.1) (by kernel_rfl) gq158.hE Tryz.func158 (by kernel_rfl) rfl (Nat.le_refl _) (fun t => HintOk.n1 (by kernel_rfl) (gq158.hok gq158.hE)) (fun t g => gq158.F_nat g (fun y0 => some y0) _) (fun t => by kernel_rfl)
def gq177.F {R : Type} (kk : Bool → Option R) (c : Int) : Option R :=
 cond (decide (c ≥ (97 : Int))) (
  cond (decide (c ≤ (122 : Int))) (kk true) (
   cond (decide (c ≥ (65 : Int))) (cond (decide (c ≤ (90 : Int))) (kk true) (kk (c == (95 : Int)))) (kk (c == (95 : Int))))) (
  cond (decide (c ≥ (65 : Int))) (cond (decide (c ≤ (90 : Int))) (kk true) (kk (c == (95 : Int)))) (kk (c == (95 : Int))))
theorem gq177.F_nat {R S : Type} (g : R → Option S) (kk : Bool → Option R) (c) : gq177.F (fun y0 => (kk y0).bind g) c = (gq177.F kk c).bind g := by
 simp only [gq177.F, grd_bind, cnd_bind, bnd_bind, non_bind]
def gq177 (c : Int) : Option Bool := gq177.F (fun y0 => some y0) c
def gq177.out : Bool → CRes := fun a => ⟨encL SV.enc [.one (.bool)] (a, ()), [encL SC.enc [] ()]⟩
def gq177.ps : List PS := [.val [none]]
def gq177.sA : List SA := [.v (.one (.int .u8))]
def gq177.fi : FI := FIs gq177.sA (Bool) (fun t => gq177 t.1) gq177.out gq177.ps
def gq177.E : Env := ⟨tt, lkF [], 21, 0, [], []⟩
theorem gq177.hok (hE : EOk Tryz.prog (gq177.E)) : HintOk Tryz.prog gq177.E (bodyOf Tryz.f177) (.a) := HintOk.n1 (Q := True) (by kernel_rfl) trivial
theorem gq177.hE : EOk Tryz.prog (gq177.E) := EOk.of ttOk (trivial)
theorem gq177.fok : FOk Tryz.prog 177 gq177.fi :=
 fokS (E := gq177.E) (wy := ⟨[[none]], [[]], []⟩) (h := (fun gs => .a)) (G := fun t g => gq177.F (fun y0 => g y0) t.1) (by kernel_rfl) gq177.hE Tryz.func177 (by kernel_rfl) rfl (Nat.le_refl _) (fun t => HintOk.n1 (by kernel_rfl) (gq177.hok gq177.hE)) (fun t g => gq177.F_nat g (fun y0 => some y0) _) (fun t => by kernel_rfl)
def gq156.l1 {R : Type} (kke0 : Option R) (kkr : Bool → Option R) : Nat → ByteArray → Int → Option R
 | 0, _, _ => none
 | n + 1, t_, i =>
  cond (decide (i < (ByteArray.size t_ : Int))) (
   grd (gIx i (ByteArray.size t_)) <|
   (gq177 (byteAt t_ i)).bind fun r =>
   cond (!r) (
    grd (gIx i (ByteArray.size t_)) <|
    (gq158 (byteAt t_ i)).bind fun r1 =>
    cond (!r1) (kkr false) (gq156.l1 kke0 kkr n t_ (IntKind.wrap .i64 (i + (1 : Int))))) (gq156.l1 kke0 kkr n t_ (IntKind.wrap .i64 (i + (1 : Int))))) (kke0)
theorem gq156.l1_nat {R S : Type} (g : R → Option S) (kke0 : Option R) (kkr : Bool → Option R) : ∀ n t_ i, gq156.l1 (kke0.bind g) (fun y0 => (kkr y0).bind g) n t_ i = (gq156.l1 kke0 kkr n t_ i).bind g := by
 intro n
 induction n with
 | zero => intros; rfl
 | succ n ih => intros; simp only [gq156.l1, grd_bind, cnd_bind, bnd_bind, non_bind, ih]
def gq156.F {R : Type} (kk : Bool → Option R) (t_ : ByteArray) : Option R :=
 cond (decide ((ByteArray.size t_ : Int) < (1 : Int))) (kk false) (
  cond (decide ((ByteArray.size t_ : Int) > (40 : Int))) (kk false) (
   grd (gIx (0 : Int) (ByteArray.size t_)) <|
   (gq177 (byteAt t_ (0 : Int))).bind fun r =>
   cond (!r) (kk false) (gq156.l1 (kk true) (fun b => kk b) fuel t_ (1 : Int))))
theorem gq156.F_nat {R S : Type} (g : R → Option S) (kk : Bool → Option R) (t_) : gq156.F (fun y0 => (kk y0).bind g) t_ = (gq156.F kk t_).bind g := by
 simp only [gq156.F, grd_bind, cnd_bind, bnd_bind, non_bind, ← gq156.l1_nat]
def gq156 (t_ : ByteArray) : Option Bool := gq156.F (fun y0 => some y0) t_
def gq156.out : Bool → CRes := fun a => ⟨encL SV.enc [.one (.bool)] (a, ()), [encL SC.enc [] ()]⟩
def gq156.ps : List PS := [.val [none]]
def gq156.sA : List SA := [.v (.one (.str))]
def gq156.fi : FI := FIs gq156.sA (Bool) (fun t => gq156 t.1) gq156.out gq156.ps
def gq156.E : Env := ⟨tt, lkF [(158, gq158.fi), (177, gq177.fi)], 36, 0, [], []⟩
def gq156.sh1 : SK := ⟨[.v (.one (.str)), .v (.one (.int .i64))], []⟩
def gq156.sh1e0 : SK := ⟨[], []⟩
def gq156.sh1r : SK := ⟨[.v (.one (.bool))], []⟩
def gq156.ko1 : Ex → List CastAt × List Nat
 | .nrm => ([], [])
 | .ret => ([], [2])
 | .ext i => cond (Nat.beq i 0) ([], []) ([], [])
def gq156.G1 (n : Nat) (R : Type) (t : gq156.sh1.T) (K : Ex → Kp → Option R) : Option R := gq156.l1 (K (.ext 0) (SK.enc gq156.sh1e0 ((), ()))) (fun y0 => K .ret (SK.enc gq156.sh1r ((y0, ()), ()))) n t.1.1 t.1.2.1
def gq156.S1 : Sum := ⟨([], [0, 3]), sumF gq156.sh1 (gq156.G1 fuel), gq156.ko1⟩
theorem gq156.ok1 (hE : EOk Tryz.prog (gq156.E)) : SumOk Tryz.prog gq156.E (cB (cR (cL (cR (cR (bodyOf Tryz.f156)))))) (gq156.S1) := by
 have hh : HintOk Tryz.prog gq156.E (cB (cB (cR (cL (cR (cR (bodyOf Tryz.f156))))))) (.a) := HintOk.n1 (Q := True) (by kernel_rfl) trivial
 have h := loopS (kin := ([], [0, 3])) (kout := gq156.ko1) (sh := gq156.sh1) (F := gq156.G1) (ops_ok (hE.gv _)) (by kernel_rfl) hh (fun _ _ _ => rfl) (fun n R t K => by kernel_rfl) fuel
 exact HintOk.n1 (c := (cB (cR (cL (cR (cR (bodyOf Tryz.f156))))))) (h := .s (gq156.S1)) (P := Tryz.prog) (E := gq156.E) (by kernel_rfl) h
theorem gq156.hok (hE : EOk Tryz.prog (gq156.E)) : HintOk Tryz.prog gq156.E (bodyOf Tryz.f156) (.n (.a) (.n (.a) (.n (.n (.a) (.b (.s (gq156.S1)))) (.a)))) := HintOk.n1 (Q := (True) ∧ ((True) ∧ (((True) ∧ (SumOk Tryz.prog gq156.E (cB (cR (cL (cR (cR (bodyOf Tryz.f156)))))) (gq156.S1))) ∧ (True)))) (by kernel_rfl) ⟨trivial, ⟨trivial, ⟨⟨trivial, (gq156.ok1 hE)⟩, trivial⟩⟩⟩
theorem gq156.hE : EOk Tryz.prog (gq156.E) := EOk.of ttOk (⟨gq158.fok, ⟨gq177.fok, trivial⟩⟩)
theorem gq156.fok : FOk Tryz.prog 156 gq156.fi :=
 fokS (E := gq156.E) (wy := ⟨[[none]], [[]], []⟩) (h := (fun gs => .n (.a) (.n (.a) (.n (.n (.a) (.b (.s (gq156.S1)))) (.a))))) (G := fun t g => gq156.F (fun y0 => g y0) t.1) (by kernel_rfl) gq156.hE Tryz.func156 (by kernel_rfl) rfl (Nat.le_refl _) (fun t => HintOk.n1 (by kernel_rfl) (gq156.hok gq156.hE)) (fun t g => gq156.F_nat g (fun y0 => some y0) _) (fun t => by kernel_rfl)
def gq120.F {R : Type} (kk : Bool → Option R) (t_ : ByteArray) : Option R :=
 (gq156 t_).bind fun r =>
 kk r
theorem gq120.F_nat {R S : Type} (g : R → Option S) (kk : Bool → Option R) (t_) : gq120.F (fun y0 => (kk y0).bind g) t_ = (gq120.F kk t_).bind g := by
 simp only [gq120.F, grd_bind, cnd_bind, bnd_bind, non_bind]
def gq120 (t_ : ByteArray) : Option Bool := gq120.F (fun y0 => some y0) t_
def gq120.out : Bool → CRes := fun a => ⟨encL SV.enc [.one (.bool)] (a, ()), [encL SC.enc [] ()]⟩
def gq120.ps : List PS := [.val [none]]
def gq120.sA : List SA := [.v (.one (.str))]
def gq120.fi : FI := FIs gq120.sA (Bool) (fun t => gq120 t.1) gq120.out gq120.ps
def gq120.E : Env := ⟨tt, lkF [(156, gq156.fi)], 5, 0, [], []⟩
theorem gq120.hok (hE : EOk Tryz.prog (gq120.E)) : HintOk Tryz.prog gq120.E (bodyOf Tryz.f120) (.a) := HintOk.n1 (Q := True) (by kernel_rfl) trivial
theorem gq120.hE : EOk Tryz.prog (gq120.E) := EOk.of ttOk (⟨gq156.fok, trivial⟩)
theorem gq120.fok : FOk Tryz.prog 120 gq120.fi :=
 fokS (E := gq120.E) (wy := ⟨[[none]], [[]], []⟩) (h := (fun gs => .a)) (G := fun t g => gq120.F (fun y0 => g y0) t.1) (by kernel_rfl) gq120.hE Tryz.func120 (by kernel_rfl) rfl (Nat.le_refl _) (fun t => HintOk.n1 (by kernel_rfl) (gq120.hok gq120.hE)) (fun t g => gq120.F_nat g (fun y0 => some y0) _) (fun t => by kernel_rfl)
def gq121.l1 {R : Type} (kke0 : Int → Option R) : Nat → Int → Int → Int → List (El kFile) → Option R
 | 0, _, _, _, _ => none
 | n + 1, n_, i, d, d1 =>
  cond (decide (i < (List.length d1 : Int))) (
   grd (gIx i (List.length d1)) <|
   gq121.l1 kke0 n (IntKind.wrap .i64 (n_ + (ByteArray.size (rdE kFile d1 (Int.toNat i)).2.1 : Int))) (IntKind.wrap .i64 (i + (1 : Int))) d d1) (kke0 n_)
theorem gq121.l1_nat {R S : Type} (g : R → Option S) (kke0 : Int → Option R) : ∀ n n_ i d d1, gq121.l1 (fun y0 => (kke0 y0).bind g) n n_ i d d1 = (gq121.l1 kke0 n n_ i d d1).bind g := by
 intro n
 induction n with
 | zero => intros; rfl
 | succ n ih => intros; simp only [gq121.l1, grd_bind, cnd_bind, bnd_bind, non_bind, ih]
def gq121.F {R : Type} (kk : Int → Option R) (d_Room : Int) (d_Files : List (El kFile)) : Option R :=
 gq121.l1 (fun n_ => kk n_) fuel (0 : Int) (0 : Int) d_Room d_Files
theorem gq121.F_nat {R S : Type} (g : R → Option S) (kk : Int → Option R) (d_Room d_Files) : gq121.F (fun y0 => (kk y0).bind g) d_Room d_Files = (gq121.F kk d_Room d_Files).bind g := by
 simp only [gq121.F, grd_bind, cnd_bind, bnd_bind, non_bind, ← gq121.l1_nat]
def gq121 (d_Room : Int) (d_Files : List (El kFile)) : Option Int := gq121.F (fun y0 => some y0) d_Room d_Files
def gq121.out : Int → CRes := fun a => ⟨encL SV.enc [.one (.int .i64)] (a, ()), [encL SC.enc [] ()]⟩
def gq121.ps : List PS := [.val [none, some (kFile, false)]]
def gq121.sA : List SA := [.v (.agg [.int .i64, .slv [] kFile])]
def gq121.fi : FI := FIs gq121.sA (Int) (fun t => gq121 t.1.1 t.1.2.1) gq121.out gq121.ps
def gq121.E : Env := ⟨tt, lkF [], 22, 0, [], []⟩
def gq121.sh1 : SK := ⟨[.v (.one (.bptr 0 0)), .v (.one (.int .i64)), .v (.one (.int .i64))], [.box [.int .i64, .slv [1] kFile]]⟩
def gq121.sh1e0 : SK := ⟨[.v (.one (.int .i64))], []⟩
def gq121.ko1 : Ex → List CastAt × List Nat
 | .nrm => ([], [])
 | .ret => ([], [])
 | .ext i => cond (Nat.beq i 0) ([], [3]) ([], [])
def gq121.G1 (n : Nat) (R : Type) (t : gq121.sh1.T) (K : Ex → Kp → Option R) : Option R := gq121.l1 (fun y0 => K (.ext 0) (SK.enc gq121.sh1e0 ((y0, ()), ()))) n t.1.2.1 t.1.2.2.1 t.2.1.1 t.2.1.2.1
def gq121.S1 : Sum := ⟨([], [1, 3, 4]), sumF gq121.sh1 (gq121.G1 fuel), gq121.ko1⟩
theorem gq121.ok1 (hE : EOk Tryz.prog (gq121.E)) : SumOk Tryz.prog gq121.E (cB (cR (cL (cR (cR (bodyOf Tryz.f121)))))) (gq121.S1) := by
 have hh : HintOk Tryz.prog gq121.E (cB (cB (cR (cL (cR (cR (bodyOf Tryz.f121))))))) (.a) := HintOk.n1 (Q := True) (by kernel_rfl) trivial
 have h := loopS (kin := ([], [1, 3, 4])) (kout := gq121.ko1) (sh := gq121.sh1) (F := gq121.G1) (ops_ok (hE.gv _)) (by kernel_rfl) hh (fun _ _ _ => rfl) (fun n R t K => by kernel_rfl) fuel
 exact HintOk.n1 (c := (cB (cR (cL (cR (cR (bodyOf Tryz.f121))))))) (h := .s (gq121.S1)) (P := Tryz.prog) (E := gq121.E) (by kernel_rfl) h
theorem gq121.hok (hE : EOk Tryz.prog (gq121.E)) : HintOk Tryz.prog gq121.E (bodyOf Tryz.f121) (.n (.a) (.n (.a) (.n (.n (.a) (.b (.s (gq121.S1)))) (.a)))) := HintOk.n1 (Q := (True) ∧ ((True) ∧ (((True) ∧ (SumOk Tryz.prog gq121.E (cB (cR (cL (cR (cR (bodyOf Tryz.f121)))))) (gq121.S1))) ∧ (True)))) (by kernel_rfl) ⟨trivial, ⟨trivial, ⟨⟨trivial, (gq121.ok1 hE)⟩, trivial⟩⟩⟩
theorem gq121.hE : EOk Tryz.prog (gq121.E) := EOk.of ttOk (trivial)
theorem gq121.fok : FOk Tryz.prog 121 gq121.fi :=
 fokS (E := gq121.E) (wy := ⟨[[none]], [[]], []⟩) (h := (fun gs => .n (.a) (.n (.a) (.n (.n (.a) (.b (.s (gq121.S1)))) (.a))))) (G := fun t g => gq121.F (fun y0 => g y0) t.1.1 t.1.2.1) (by kernel_rfl) gq121.hE Tryz.func121 (by kernel_rfl) rfl (Nat.le_refl _) (fun t => HintOk.n1 (by kernel_rfl) (gq121.hok gq121.hE)) (fun t g => gq121.F_nat g (fun y0 => some y0) _ _) (fun t => by kernel_rfl)
def gq73.l1 {R : Type} (kke0 : Int → List (El kFile) → Option R) (kkr : Bool → Option R) : Nat → Int → Int → List (El kFile) → Option R
 | 0, _, _, _ => none
 | n + 1, i, d, d1 =>
  cond (decide (i < (List.length d1 : Int))) (
   grd (gIx i (List.length d1)) <|
   (gq120 ((rdE kFile d1 (Int.toNat i)).1)).bind fun r =>
   cond (!r) (kkr false) (
    (gq59 ((rdE kFile d1 (Int.toNat i)).2.2) (0 : Int) (ByteArray.size (rdE kFile d1 (Int.toNat i)).2.1 : Int)).bind fun r1 =>
    cond (!r1) (kkr false) (
     cond (decide ((ByteArray.size (rdE kFile d1 (Int.toNat i)).2.1 : Int) > (3000 : Int))) (kkr false) (
      cond (decide (i > (0 : Int))) (
       grd (gIx (IntKind.wrap .i64 (i - (1 : Int))) (List.length d1)) <|
       cond (!(sLt (rdE kFile d1 (Int.toNat (IntKind.wrap .i64 (i - (1 : Int))))).1 (rdE kFile d1 (Int.toNat i)).1)) (kkr false) (gq73.l1 kke0 kkr n (IntKind.wrap .i64 (i + (1 : Int))) d d1)) (gq73.l1 kke0 kkr n (IntKind.wrap .i64 (i + (1 : Int))) d d1))))) (kke0 d d1)
theorem gq73.l1_nat {R S : Type} (g : R → Option S) (kke0 : Int → List (El kFile) → Option R) (kkr : Bool → Option R) : ∀ n i d d1, gq73.l1 (fun y0 y1 => (kke0 y0 y1).bind g) (fun y0 => (kkr y0).bind g) n i d d1 = (gq73.l1 kke0 kkr n i d d1).bind g := by
 intro n
 induction n with
 | zero => intros; rfl
 | succ n ih => intros; simp only [gq73.l1, grd_bind, cnd_bind, bnd_bind, non_bind, ih]
def gq73.F {R : Type} (kk : Bool → Option R) (d_Room : Int) (d_Files : List (El kFile)) : Option R :=
 (gq59 d_Room (0 : Int) (3000 : Int)).bind fun r =>
 cond (!r) (kk false) (
  cond (decide ((List.length d_Files : Int) > (8 : Int))) (kk false) (
   gq73.l1 (fun d d1 =>
    (gq121 d d1).bind fun r1 =>
    kk (decide (r1 ≤ d))) (fun b => kk b) fuel (0 : Int) d_Room d_Files))
theorem gq73.F_nat {R S : Type} (g : R → Option S) (kk : Bool → Option R) (d_Room d_Files) : gq73.F (fun y0 => (kk y0).bind g) d_Room d_Files = (gq73.F kk d_Room d_Files).bind g := by
 simp only [gq73.F, grd_bind, cnd_bind, bnd_bind, non_bind, ← gq73.l1_nat]
def gq73 (d_Room : Int) (d_Files : List (El kFile)) : Option Bool := gq73.F (fun y0 => some y0) d_Room d_Files
def gq73.out : Bool → CRes := fun a => ⟨encL SV.enc [.one (.bool)] (a, ()), [encL SC.enc [] ()]⟩
def gq73.ps : List PS := [.val [none, some (kFile, false)]]
def gq73.sA : List SA := [.v (.agg [.int .i64, .slv [] kFile])]
def gq73.fi : FI := FIs gq73.sA (Bool) (fun t => gq73 t.1.1 t.1.2.1) gq73.out gq73.ps
def gq73.E : Env := ⟨tt, lkF [(59, gq59.fi), (120, gq120.fi), (121, gq121.fi)], 67, 0, [], []⟩
def gq73.sh1 : SK := ⟨[.v (.one (.bptr 0 0)), .v (.one (.int .i64))], [.box [.int .i64, .slv [1] kFile]]⟩
def gq73.sh1e0 : SK := ⟨[.v (.one (.bptr 0 0))], [.box [.int .i64, .slv [1] kFile]]⟩
def gq73.sh1r : SK := ⟨[.v (.one (.bool))], []⟩
def gq73.ko1 : Ex → List CastAt × List Nat
 | .nrm => ([], [])
 | .ret => ([], [2])
 | .ext i => cond (Nat.beq i 0) ([], [1]) ([], [])
def gq73.G1 (n : Nat) (R : Type) (t : gq73.sh1.T) (K : Ex → Kp → Option R) : Option R := gq73.l1 (fun y0 y1 => K (.ext 0) (SK.enc gq73.sh1e0 (((), ()), ((y0, y1, ()), ())))) (fun y0 => K .ret (SK.enc gq73.sh1r ((y0, ()), ()))) n t.1.2.1 t.2.1.1 t.2.1.2.1
def gq73.S1 : Sum := ⟨([], [1, 3]), sumF gq73.sh1 (gq73.G1 fuel), gq73.ko1⟩
theorem gq73.ok1 (hE : EOk Tryz.prog (gq73.E)) : SumOk Tryz.prog gq73.E (cB (cR (cL (cR (cR (bodyOf Tryz.f73)))))) (gq73.S1) := by
 have hh : HintOk Tryz.prog gq73.E (cB (cB (cR (cL (cR (cR (bodyOf Tryz.f73))))))) (.a) := HintOk.n1 (Q := True) (by kernel_rfl) trivial
 have h := loopS (kin := ([], [1, 3])) (kout := gq73.ko1) (sh := gq73.sh1) (F := gq73.G1) (ops_ok (hE.gv _)) (by kernel_rfl) hh (fun _ _ _ => rfl) (fun n R t K => by kernel_rfl) fuel
 exact HintOk.n1 (c := (cB (cR (cL (cR (cR (bodyOf Tryz.f73))))))) (h := .s (gq73.S1)) (P := Tryz.prog) (E := gq73.E) (by kernel_rfl) h
theorem gq73.hok (hE : EOk Tryz.prog (gq73.E)) : HintOk Tryz.prog gq73.E (bodyOf Tryz.f73) (.n (.a) (.n (.a) (.n (.n (.a) (.b (.s (gq73.S1)))) (.a)))) := HintOk.n1 (Q := (True) ∧ ((True) ∧ (((True) ∧ (SumOk Tryz.prog gq73.E (cB (cR (cL (cR (cR (bodyOf Tryz.f73)))))) (gq73.S1))) ∧ (True)))) (by kernel_rfl) ⟨trivial, ⟨trivial, ⟨⟨trivial, (gq73.ok1 hE)⟩, trivial⟩⟩⟩
theorem gq73.hE : EOk Tryz.prog (gq73.E) := EOk.of ttOk (⟨gq59.fok, ⟨gq120.fok, ⟨gq121.fok, trivial⟩⟩⟩)
theorem gq73.fok : FOk Tryz.prog 73 gq73.fi :=
 fokS (E := gq73.E) (wy := ⟨[[none]], [[]], []⟩) (h := (fun gs => .n (.a) (.n (.a) (.n (.n (.a) (.b (.s (gq73.S1)))) (.a))))) (G := fun t g => gq73.F (fun y0 => g y0) t.1.1 t.1.2.1) (by kernel_rfl) gq73.hE Tryz.func73 (by kernel_rfl) rfl (Nat.le_refl _) (fun t => HintOk.n1 (by kernel_rfl) (gq73.hok gq73.hE)) (fun t g => gq73.F_nat g (fun y0 => some y0) _ _) (fun t => by kernel_rfl)
def gq130.F {R : Type} (kk : Int → Option R) (name : ByteArray) : Option R :=
 cond ((ByteArray.size name : Int) != (3 : Int)) (kk (0 : Int)) (
  grd (gIx (0 : Int) (ByteArray.size name)) <|
  cond ((byteAt name (0 : Int)) != (115 : Int)) (kk (0 : Int)) (
   grd (gIx (1 : Int) (ByteArray.size name)) <|
   (gq158 (byteAt name (1 : Int))).bind fun r =>
   cond (!r) (kk (0 : Int)) (
    grd (gIx (2 : Int) (ByteArray.size name)) <|
    (gq158 (byteAt name (2 : Int))).bind fun r1 =>
    cond (!r1) (kk (0 : Int)) (
     grd (gIx (1 : Int) (ByteArray.size name)) <|
     grd (gIx (2 : Int) (ByteArray.size name)) <|
     kk (IntKind.wrap .i64 ((IntKind.wrap .i64 ((IntKind.wrap .i64 ((10 : Int) * (IntKind.wrap .i64 ((IntKind.wrap .i64 (byteAt name (1 : Int))) - (48 : Int))))) + (IntKind.wrap .i64 (byteAt name (2 : Int))))) - (48 : Int)))))))
theorem gq130.F_nat {R S : Type} (g : R → Option S) (kk : Int → Option R) (name) : gq130.F (fun y0 => (kk y0).bind g) name = (gq130.F kk name).bind g := by
 simp only [gq130.F, grd_bind, cnd_bind, bnd_bind, non_bind]
def gq130 (name : ByteArray) : Option Int := gq130.F (fun y0 => some y0) name
def gq130.out : Int → CRes := fun a => ⟨encL SV.enc [.one (.int .i64)] (a, ()), [encL SC.enc [] ()]⟩
def gq130.ps : List PS := [.val [none]]
def gq130.sA : List SA := [.v (.one (.str))]
def gq130.fi : FI := FIs gq130.sA (Int) (fun t => gq130 t.1) gq130.out gq130.ps
def gq130.E : Env := ⟨tt, lkF [(158, gq158.fi)], 33, 0, [], []⟩
theorem gq130.hok (hE : EOk Tryz.prog (gq130.E)) : HintOk Tryz.prog gq130.E (bodyOf Tryz.f130) (.a) := HintOk.n1 (Q := True) (by kernel_rfl) trivial
theorem gq130.hE : EOk Tryz.prog (gq130.E) := EOk.of ttOk (⟨gq158.fok, trivial⟩)
theorem gq130.fok : FOk Tryz.prog 130 gq130.fi :=
 fokS (E := gq130.E) (wy := ⟨[[none]], [[]], []⟩) (h := (fun gs => .a)) (G := fun t g => gq130.F (fun y0 => g y0) t.1) (by kernel_rfl) gq130.hE Tryz.func130 (by kernel_rfl) rfl (Nat.le_refl _) (fun t => HintOk.n1 (by kernel_rfl) (gq130.hok gq130.hE)) (fun t g => gq130.F_nat g (fun y0 => some y0) _) (fun t => by kernel_rfl)
def gq95.l1 {R : Type} (kke0 : List Int → Option R) : Nat → Int → Int → List (El kFile) → List Int → Option R
 | 0, _, _, _, _ => none
 | n + 1, i, d, d1, out =>
  cond (decide (i < (List.length d1 : Int))) (
   grd (gIx i (List.length d1)) <|
   (gq130 ((rdE kFile d1 (Int.toNat i)).1)).bind fun r =>
   cond (decide (r > (0 : Int))) (
    grd (gRm (((List.length out) + (List.length [r])) * 8)) <|
    gq95.l1 kke0 n (IntKind.wrap .i64 (i + (1 : Int))) d d1 (out ++ [r])) (gq95.l1 kke0 n (IntKind.wrap .i64 (i + (1 : Int))) d d1 out)) (kke0 out)
theorem gq95.l1_nat {R S : Type} (g : R → Option S) (kke0 : List Int → Option R) : ∀ n i d d1 out, gq95.l1 (fun y0 => (kke0 y0).bind g) n i d d1 out = (gq95.l1 kke0 n i d d1 out).bind g := by
 intro n
 induction n with
 | zero => intros; rfl
 | succ n ih => intros; simp only [gq95.l1, grd_bind, cnd_bind, bnd_bind, non_bind, ih]
def gq95.F {R : Type} (kk : List Int → Option R) (d_Room : Int) (d_Files : List (El kFile)) : Option R :=
 gq95.l1 (fun out => kk out) fuel (0 : Int) d_Room d_Files ([] : List Int)
theorem gq95.F_nat {R S : Type} (g : R → Option S) (kk : List Int → Option R) (d_Room d_Files) : gq95.F (fun y0 => (kk y0).bind g) d_Room d_Files = (gq95.F kk d_Room d_Files).bind g := by
 simp only [gq95.F, grd_bind, cnd_bind, bnd_bind, non_bind, ← gq95.l1_nat]
def gq95 (d_Room : Int) (d_Files : List (El kFile)) : Option (List Int) := gq95.F (fun y0 => some y0) d_Room d_Files
def gq95.out : (List Int) → CRes := fun a => ⟨encL SV.enc [.one (.own [] (.int .i64) true)] (a, ()), [encL SC.enc [] ()]⟩
def gq95.ps : List PS := [.val [none, some (kFile, false)]]
def gq95.sA : List SA := [.v (.agg [.int .i64, .slv [] kFile])]
def gq95.fi : FI := FIs gq95.sA (List Int) (fun t => gq95 t.1.1 t.1.2.1) gq95.out gq95.ps
def gq95.E : Env := ⟨tt, lkF [(130, gq130.fi)], 28, 0, [], []⟩
def gq95.sh1 : SK := ⟨[.v (.one (.bptr 0 0)), .v (.one (.slo 1)), .v (.one (.int .i64))], [.box [.int .i64, .slv [1] kFile], .arr (.int .i64) [] true]⟩
def gq95.sh1e0 : SK := ⟨[.v (.one (.slo 0))], [.arr (.int .i64) [] true]⟩
def gq95.ko1 : Ex → List CastAt × List Nat
 | .nrm => ([], [])
 | .ret => ([], [])
 | .ext i => cond (Nat.beq i 0) ([], [3]) ([], [])
def gq95.G1 (n : Nat) (R : Type) (t : gq95.sh1.T) (K : Ex → Kp → Option R) : Option R := gq95.l1 (fun y0 => K (.ext 0) (SK.enc gq95.sh1e0 (((), ()), (y0, ())))) n t.1.2.2.1 t.2.1.1 t.2.1.2.1 t.2.2.1
def gq95.S1 : Sum := ⟨([], [1, 3, 4]), sumF gq95.sh1 (gq95.G1 fuel), gq95.ko1⟩
theorem gq95.ok1 (hE : EOk Tryz.prog (gq95.E)) : SumOk Tryz.prog gq95.E (cB (cR (cL (cR (cR (bodyOf Tryz.f95)))))) (gq95.S1) := by
 have hh : HintOk Tryz.prog gq95.E (cB (cB (cR (cL (cR (cR (bodyOf Tryz.f95))))))) (.a) := HintOk.n1 (Q := True) (by kernel_rfl) trivial
 have h := loopS (kin := ([], [1, 3, 4])) (kout := gq95.ko1) (sh := gq95.sh1) (F := gq95.G1) (ops_ok (hE.gv _)) (by kernel_rfl) hh (fun _ _ _ => rfl) (fun n R t K => by kernel_rfl) fuel
 exact HintOk.n1 (c := (cB (cR (cL (cR (cR (bodyOf Tryz.f95))))))) (h := .s (gq95.S1)) (P := Tryz.prog) (E := gq95.E) (by kernel_rfl) h
theorem gq95.hok (hE : EOk Tryz.prog (gq95.E)) : HintOk Tryz.prog gq95.E (bodyOf Tryz.f95) (.n (.a) (.n (.a) (.n (.n (.a) (.b (.s (gq95.S1)))) (.a)))) := HintOk.n1 (Q := (True) ∧ ((True) ∧ (((True) ∧ (SumOk Tryz.prog gq95.E (cB (cR (cL (cR (cR (bodyOf Tryz.f95)))))) (gq95.S1))) ∧ (True)))) (by kernel_rfl) ⟨trivial, ⟨trivial, ⟨⟨trivial, (gq95.ok1 hE)⟩, trivial⟩⟩⟩
theorem gq95.hE : EOk Tryz.prog (gq95.E) := EOk.of ttOk (⟨gq130.fok, trivial⟩)
theorem gq95.fok : FOk Tryz.prog 95 gq95.fi :=
 fokS (E := gq95.E) (wy := ⟨[[some ((.int .i64), true)]], [[]], []⟩) (h := (fun gs => .n (.a) (.n (.a) (.n (.n (.a) (.b (.s (gq95.S1)))) (.a))))) (G := fun t g => gq95.F (fun y0 => g y0) t.1.1 t.1.2.1) (by kernel_rfl) gq95.hE Tryz.func95 (by kernel_rfl) rfl (Nat.le_refl _) (fun t => HintOk.n1 (by kernel_rfl) (gq95.hok gq95.hE)) (fun t g => gq95.F_nat g (fun y0 => some y0) _ _) (fun t => by kernel_rfl)
def gq147.F {R : Type} (rc : Int → Option ByteArray) (kk : ByteArray → Option R) (n_ : Int) : Option R :=
 cond (n_ == (-9223372036854775808 : Int)) (
  kk (⟨#[45, 57, 50, 50, 51, 51, 55, 50, 48, 51, 54, 56, 53, 52, 55, 55, 53, 56, 48, 56]⟩ : ByteArray)) (
  cond (decide (n_ < (0 : Int))) (
   (rc (IntKind.wrap .i64 (0 - n_))).bind fun r =>
   grd (gCat (⟨#[45]⟩ : ByteArray) r) <|
   kk ((⟨#[45]⟩ : ByteArray) ++ r)) (
   cond (decide (n_ < (10 : Int))) (kk (strL [IntKind.wrap .u8 (IntKind.wrap .i64 ((48 : Int) + n_))])) (
    grd (gNz (10 : Int)) <|
    (rc (IntKind.wrap .i64 (Int.tdiv n_ (10 : Int)))).bind fun r1 =>
    grd (gNz (10 : Int)) <|
    grd (gCat r1 (strL [IntKind.wrap .u8 (IntKind.wrap .i64 ((48 : Int) + (Int.tmod n_ (10 : Int))))])) <|
    kk (r1 ++ (strL [IntKind.wrap .u8 (IntKind.wrap .i64 ((48 : Int) + (Int.tmod n_ (10 : Int))))])))))
theorem gq147.F_nat {R S : Type} (g : R → Option S) (rc : Int → Option ByteArray) (kk : ByteArray → Option R) (n_) : gq147.F rc (fun y0 => (kk y0).bind g) n_ = (gq147.F rc kk n_).bind g := by
 simp only [gq147.F, grd_bind, cnd_bind, bnd_bind, non_bind]
def gq147 : Nat → Int → Option ByteArray
 | 0, _ => none
 | fu + 1, n_ => gq147.F (gq147 fu) (fun y0 => some y0) n_
theorem gq147_nat {S : Type} (fu : Nat) (g : ByteArray → Option S) (n_ : Int) : gq147.F (gq147 fu) (fun y0 => g y0) n_ = (gq147 (fu + 1) n_).bind g := gq147.F_nat g (gq147 fu) (fun y0 => some y0) n_
def gq147.out : ByteArray → CRes := fun a => ⟨encL SV.enc [.one (.str)] (a, ()), [encL SC.enc [] ()]⟩
def gq147.ps : List PS := [.val [none]]
def gq147.sA : List SA := [.v (.one (.int .i64))]
def gq147.fi (fu : Nat) : FI := FIs gq147.sA (ByteArray) (fun t => gq147 fu t.1) gq147.out gq147.ps
def gq147.E (fu : Nat) : Env := ⟨tt, lkF [(147, gq147.fi fu)], 28, 0, [], []⟩
theorem gq147.hok (fu : Nat) (hE : EOk Tryz.prog (gq147.E fu)) : HintOk Tryz.prog (gq147.E fu) (bodyOf Tryz.f147) (.a) := HintOk.n1 (Q := True) (by kernel_rfl) trivial
theorem gq147.fok0 : FOk Tryz.prog 147 (gq147.fi 0) := FOk.zero ⟨_, _, Tryz.func147, by kernel_rfl, rfl⟩ (fun _ => rfl)
theorem gq147.fok1 (fu : Nat) (ih : FOk Tryz.prog 147 (gq147.fi fu)) : FOk Tryz.prog 147 (gq147.fi (fu + 1)) := by
 have hE : EOk Tryz.prog (gq147.E fu) := EOk.of ttOk (⟨ih, trivial⟩)
 exact fokS (E := gq147.E fu) (wy := ⟨[[none]], [[]], []⟩) (h := (fun gs => .a)) (G := fun t g => gq147.F (gq147 fu) (fun y0 => g y0) t.1) (by kernel_rfl) hE Tryz.func147 (by kernel_rfl) rfl (Nat.le_refl _) (fun t => HintOk.n1 (by kernel_rfl) (gq147.hok fu hE)) (fun t g => gq147_nat fu g t.1) (fun t => by kernel_rfl)
theorem gq147.fok (fu : Nat) : FOk Tryz.prog 147 (gq147.fi fu) := Nat.rec gq147.fok0 gq147.fok1 fu
def gq99.F {R : Type} (kk : ByteArray → Option R) (n_ : Int) : Option R :=
 grd (gNz (10 : Int)) <|
 (gq147 fuel (IntKind.wrap .i64 (Int.tdiv n_ (10 : Int)))).bind fun r =>
 grd (gCat (⟨#[115]⟩ : ByteArray) r) <|
 grd (gNz (10 : Int)) <|
 (gq147 fuel (Int.tmod n_ (10 : Int))).bind fun r1 =>
 grd (gCat ((⟨#[115]⟩ : ByteArray) ++ r) r1) <|
 kk (((⟨#[115]⟩ : ByteArray) ++ r) ++ r1)
theorem gq99.F_nat {R S : Type} (g : R → Option S) (kk : ByteArray → Option R) (n_) : gq99.F (fun y0 => (kk y0).bind g) n_ = (gq99.F kk n_).bind g := by
 simp only [gq99.F, grd_bind, cnd_bind, bnd_bind, non_bind]
def gq99 (n_ : Int) : Option ByteArray := gq99.F (fun y0 => some y0) n_
def gq99.out : ByteArray → CRes := fun a => ⟨encL SV.enc [.one (.str)] (a, ()), [encL SC.enc [] ()]⟩
def gq99.ps : List PS := [.val [none]]
def gq99.sA : List SA := [.v (.one (.int .i64))]
def gq99.fi : FI := FIs gq99.sA (ByteArray) (fun t => gq99 t.1) gq99.out gq99.ps
def gq99.E : Env := ⟨tt, lkF [(147, gq147.fi fuel)], 11, 0, [], []⟩
theorem gq99.hok (hE : EOk Tryz.prog (gq99.E)) : HintOk Tryz.prog gq99.E (bodyOf Tryz.f99) (.a) := HintOk.n1 (Q := True) (by kernel_rfl) trivial
theorem gq99.hE : EOk Tryz.prog (gq99.E) := EOk.of ttOk (⟨gq147.fok fuel, trivial⟩)
theorem gq99.fok : FOk Tryz.prog 99 gq99.fi :=
 fokS (E := gq99.E) (wy := ⟨[[none]], [[]], []⟩) (h := (fun gs => .a)) (G := fun t g => gq99.F (fun y0 => g y0) t.1) (by kernel_rfl) gq99.hE Tryz.func99 (by kernel_rfl) rfl (Nat.le_refl _) (fun t => HintOk.n1 (by kernel_rfl) (gq99.hok gq99.hE)) (fun t g => gq99.F_nat g (fun y0 => some y0) _) (fun t => by kernel_rfl)
def gq124.l1 {R : Type} (kke0 : Option R) (kkr : Int → Option R) : Nat → ByteArray → Int → Int → List (El kFile) → Option R
 | 0, _, _, _, _ => none
 | n + 1, name, i, d, d1 =>
  cond (decide (i < (List.length d1 : Int))) (
   grd (gIx i (List.length d1)) <|
   cond (sEq (rdE kFile d1 (Int.toNat i)).1 name) (kkr i) (gq124.l1 kke0 kkr n name (IntKind.wrap .i64 (i + (1 : Int))) d d1)) (kke0)
theorem gq124.l1_nat {R S : Type} (g : R → Option S) (kke0 : Option R) (kkr : Int → Option R) : ∀ n name i d d1, gq124.l1 (kke0.bind g) (fun y0 => (kkr y0).bind g) n name i d d1 = (gq124.l1 kke0 kkr n name i d d1).bind g := by
 intro n
 induction n with
 | zero => intros; rfl
 | succ n ih => intros; simp only [gq124.l1, grd_bind, cnd_bind, bnd_bind, non_bind, ih]
def gq124.F {R : Type} (kk : Int → Option R) (d_Room : Int) (d_Files : List (El kFile)) (name : ByteArray) : Option R :=
 gq124.l1 (kk (-1 : Int)) (fun i => kk i) fuel name (0 : Int) d_Room d_Files
theorem gq124.F_nat {R S : Type} (g : R → Option S) (kk : Int → Option R) (d_Room d_Files name) : gq124.F (fun y0 => (kk y0).bind g) d_Room d_Files name = (gq124.F kk d_Room d_Files name).bind g := by
 simp only [gq124.F, grd_bind, cnd_bind, bnd_bind, non_bind, ← gq124.l1_nat]
def gq124 (d_Room : Int) (d_Files : List (El kFile)) (name : ByteArray) : Option Int := gq124.F (fun y0 => some y0) d_Room d_Files name
def gq124.out : Int → CRes := fun a => ⟨encL SV.enc [.one (.int .i64)] (a, ()), [encL SC.enc [] (), encL SC.enc [] ()]⟩
def gq124.ps : List PS := [.val [none, some (kFile, false)], .val [none]]
def gq124.sA : List SA := [.v (.agg [.int .i64, .slv [] kFile]), .v (.one (.str))]
def gq124.fi : FI := FIs gq124.sA (Int) (fun t => gq124 t.1.1 t.1.2.1 t.2.1) gq124.out gq124.ps
def gq124.E : Env := ⟨tt, lkF [], 22, 0, [], []⟩
def gq124.sh1 : SK := ⟨[.v (.one (.str)), .v (.one (.bptr 0 0)), .v (.one (.int .i64))], [.box [.int .i64, .slv [1] kFile]]⟩
def gq124.sh1e0 : SK := ⟨[], []⟩
def gq124.sh1r : SK := ⟨[.v (.one (.int .i64))], []⟩
def gq124.ko1 : Ex → List CastAt × List Nat
 | .nrm => ([], [])
 | .ret => ([], [4])
 | .ext i => cond (Nat.beq i 0) ([], []) ([], [])
def gq124.G1 (n : Nat) (R : Type) (t : gq124.sh1.T) (K : Ex → Kp → Option R) : Option R := gq124.l1 (K (.ext 0) (SK.enc gq124.sh1e0 ((), ()))) (fun y0 => K .ret (SK.enc gq124.sh1r ((y0, ()), ()))) n t.1.1 t.1.2.2.1 t.2.1.1 t.2.1.2.1
def gq124.S1 : Sum := ⟨([], [1, 2, 5]), sumF gq124.sh1 (gq124.G1 fuel), gq124.ko1⟩
theorem gq124.ok1 (hE : EOk Tryz.prog (gq124.E)) : SumOk Tryz.prog gq124.E (cB (cR (cL (cR (bodyOf Tryz.f124))))) (gq124.S1) := by
 have hh : HintOk Tryz.prog gq124.E (cB (cB (cR (cL (cR (bodyOf Tryz.f124)))))) (.a) := HintOk.n1 (Q := True) (by kernel_rfl) trivial
 have h := loopS (kin := ([], [1, 2, 5])) (kout := gq124.ko1) (sh := gq124.sh1) (F := gq124.G1) (ops_ok (hE.gv _)) (by kernel_rfl) hh (fun _ _ _ => rfl) (fun n R t K => by kernel_rfl) fuel
 exact HintOk.n1 (c := (cB (cR (cL (cR (bodyOf Tryz.f124)))))) (h := .s (gq124.S1)) (P := Tryz.prog) (E := gq124.E) (by kernel_rfl) h
theorem gq124.hok (hE : EOk Tryz.prog (gq124.E)) : HintOk Tryz.prog gq124.E (bodyOf Tryz.f124) (.n (.a) (.n (.n (.a) (.b (.s (gq124.S1)))) (.a))) := HintOk.n1 (Q := (True) ∧ (((True) ∧ (SumOk Tryz.prog gq124.E (cB (cR (cL (cR (bodyOf Tryz.f124))))) (gq124.S1))) ∧ (True))) (by kernel_rfl) ⟨trivial, ⟨⟨trivial, (gq124.ok1 hE)⟩, trivial⟩⟩
theorem gq124.hE : EOk Tryz.prog (gq124.E) := EOk.of ttOk (trivial)
theorem gq124.fok : FOk Tryz.prog 124 gq124.fi :=
 fokS (E := gq124.E) (wy := ⟨[[none]], [[], []], []⟩) (h := (fun gs => .n (.a) (.n (.n (.a) (.b (.s (gq124.S1)))) (.a)))) (G := fun t g => gq124.F (fun y0 => g y0) t.1.1 t.1.2.1 t.2.1) (by kernel_rfl) gq124.hE Tryz.func124 (by kernel_rfl) rfl (Nat.le_refl _) (fun t => HintOk.n1 (by kernel_rfl) (gq124.hok gq124.hE)) (fun t g => gq124.F_nat g (fun y0 => some y0) _ _ _) (fun t => by kernel_rfl)
def gq96.F {R : Type} (kk : ByteArray → Option R) (d_Room : Int) (d_Files : List (El kFile)) (n_ : Int) : Option R :=
 (gq99 n_).bind fun r =>
 (gq124 d_Room d_Files r).bind fun r1 =>
 grd (gIx r1 (List.length d_Files)) <|
 kk (rdE kFile d_Files (Int.toNat r1)).2.1
theorem gq96.F_nat {R S : Type} (g : R → Option S) (kk : ByteArray → Option R) (d_Room d_Files n_) : gq96.F (fun y0 => (kk y0).bind g) d_Room d_Files n_ = (gq96.F kk d_Room d_Files n_).bind g := by
 simp only [gq96.F, grd_bind, cnd_bind, bnd_bind, non_bind]
def gq96 (d_Room : Int) (d_Files : List (El kFile)) (n_ : Int) : Option ByteArray := gq96.F (fun y0 => some y0) d_Room d_Files n_
def gq96.out : ByteArray → CRes := fun a => ⟨encL SV.enc [.one (.str)] (a, ()), [encL SC.enc [] (), encL SC.enc [] ()]⟩
def gq96.ps : List PS := [.val [none, some (kFile, false)], .val [none]]
def gq96.sA : List SA := [.v (.agg [.int .i64, .slv [] kFile]), .v (.one (.int .i64))]
def gq96.fi : FI := FIs gq96.sA (ByteArray) (fun t => gq96 t.1.1 t.1.2.1 t.2.1) gq96.out gq96.ps
def gq96.E : Env := ⟨tt, lkF [(99, gq99.fi), (124, gq124.fi)], 14, 0, [], []⟩
theorem gq96.hok (hE : EOk Tryz.prog (gq96.E)) : HintOk Tryz.prog gq96.E (bodyOf Tryz.f96) (.a) := HintOk.n1 (Q := True) (by kernel_rfl) trivial
theorem gq96.hE : EOk Tryz.prog (gq96.E) := EOk.of ttOk (⟨gq99.fok, ⟨gq124.fok, trivial⟩⟩)
theorem gq96.fok : FOk Tryz.prog 96 gq96.fi :=
 fokS (E := gq96.E) (wy := ⟨[[none]], [[], []], []⟩) (h := (fun gs => .a)) (G := fun t g => gq96.F (fun y0 => g y0) t.1.1 t.1.2.1 t.2.1) (by kernel_rfl) gq96.hE Tryz.func96 (by kernel_rfl) rfl (Nat.le_refl _) (fun t => HintOk.n1 (by kernel_rfl) (gq96.hok gq96.hE)) (fun t g => gq96.F_nat g (fun y0 => some y0) _ _ _) (fun t => by kernel_rfl)
def gq133.F {R : Type} (kk : List Int → Option R) (n_ : Int) : Option R :=
 grd (gSh (24 : Int)) <|
 grd (gSh (16 : Int)) <|
 grd (gSh (8 : Int)) <|
 kk [IntKind.wrap .u8 (iShr .i64 n_ (24 : Int)), IntKind.wrap .u8 (iShr .i64 n_ (16 : Int)), IntKind.wrap .u8 (iShr .i64 n_ (8 : Int)), IntKind.wrap .u8 n_]
theorem gq133.F_nat {R S : Type} (g : R → Option S) (kk : List Int → Option R) (n_) : gq133.F (fun y0 => (kk y0).bind g) n_ = (gq133.F kk n_).bind g := by
 simp only [gq133.F, grd_bind, cnd_bind, bnd_bind, non_bind]
def gq133 (n_ : Int) : Option (List Int) := gq133.F (fun y0 => some y0) n_
def gq133.out : (List Int) → CRes := fun a => ⟨encL SV.enc [.one (.own [] (.int .u8) true)] (a, ()), [encL SC.enc [] ()]⟩
def gq133.ps : List PS := [.val [none]]
def gq133.sA : List SA := [.v (.one (.int .i64))]
def gq133.fi : FI := FIs gq133.sA (List Int) (fun t => gq133 t.1) gq133.out gq133.ps
def gq133.E : Env := ⟨tt, lkF [], 15, 0, [], []⟩
theorem gq133.hok (hE : EOk Tryz.prog (gq133.E)) : HintOk Tryz.prog gq133.E (bodyOf Tryz.f133) (.a) := HintOk.n1 (Q := True) (by kernel_rfl) trivial
theorem gq133.hE : EOk Tryz.prog (gq133.E) := EOk.of ttOk (trivial)
theorem gq133.fok : FOk Tryz.prog 133 gq133.fi :=
 fokS (E := gq133.E) (wy := ⟨[[some ((.int .u8), true)]], [[]], []⟩) (h := (fun gs => .a)) (G := fun t g => gq133.F (fun y0 => g y0) t.1) (by kernel_rfl) gq133.hE Tryz.func133 (by kernel_rfl) rfl (Nat.le_refl _) (fun t => HintOk.n1 (by kernel_rfl) (gq133.hok gq133.hE)) (fun t g => gq133.F_nat g (fun y0 => some y0) _) (fun t => by kernel_rfl)
def gq150.F {R : Type} (kk : List Int → Option R) (n_ : Int) : Option R :=
 grd (gNz (256 : Int)) <|
 kk [IntKind.wrap .u8 (IntKind.wrap .i64 (Int.tdiv n_ (256 : Int))), IntKind.wrap .u8 n_]
theorem gq150.F_nat {R S : Type} (g : R → Option S) (kk : List Int → Option R) (n_) : gq150.F (fun y0 => (kk y0).bind g) n_ = (gq150.F kk n_).bind g := by
 simp only [gq150.F, grd_bind, cnd_bind, bnd_bind, non_bind]
def gq150 (n_ : Int) : Option (List Int) := gq150.F (fun y0 => some y0) n_
def gq150.out : (List Int) → CRes := fun a => ⟨encL SV.enc [.one (.own [] (.int .u8) true)] (a, ()), [encL SC.enc [] ()]⟩
def gq150.ps : List PS := [.val [none]]
def gq150.sA : List SA := [.v (.one (.int .i64))]
def gq150.fi : FI := FIs gq150.sA (List Int) (fun t => gq150 t.1) gq150.out gq150.ps
def gq150.E : Env := ⟨tt, lkF [], 9, 0, [], []⟩
theorem gq150.hok (hE : EOk Tryz.prog (gq150.E)) : HintOk Tryz.prog gq150.E (bodyOf Tryz.f150) (.a) := HintOk.n1 (Q := True) (by kernel_rfl) trivial
theorem gq150.hE : EOk Tryz.prog (gq150.E) := EOk.of ttOk (trivial)
theorem gq150.fok : FOk Tryz.prog 150 gq150.fi :=
 fokS (E := gq150.E) (wy := ⟨[[some ((.int .u8), true)]], [[]], []⟩) (h := (fun gs => .a)) (G := fun t g => gq150.F (fun y0 => g y0) t.1) (by kernel_rfl) gq150.hE Tryz.func150 (by kernel_rfl) rfl (Nat.le_refl _) (fun t => HintOk.n1 (by kernel_rfl) (gq150.hok gq150.hE)) (fun t g => gq150.F_nat g (fun y0 => some y0) _) (fun t => by kernel_rfl)
def gq151.l1 {R : Type} (kke2 : List Int → Int → Int → Option R) : Nat → List Int → Int → Int → Int → Option R
 | 0, _, _, _, _ => none
 | n + 1, b, n_, i, k_ =>
  cond (decide (k_ < (8 : Int))) (
   grd (gNz (2 : Int)) <|
   cond ((Int.tmod n_ (2 : Int)) == (1 : Int)) (
    grd (gNz (2 : Int)) <|
    gq151.l1 kke2 n b (iXor .i64 (IntKind.wrap .i64 (Int.tdiv n_ (2 : Int))) (3988292384 : Int)) i (IntKind.wrap .i64 (k_ + (1 : Int)))) (
    grd (gNz (2 : Int)) <|
    gq151.l1 kke2 n b (IntKind.wrap .i64 (Int.tdiv n_ (2 : Int))) i (IntKind.wrap .i64 (k_ + (1 : Int))))) (kke2 b n_ i)
theorem gq151.l1_nat {R S : Type} (g : R → Option S) (kke2 : List Int → Int → Int → Option R) : ∀ n b n_ i k_, gq151.l1 (fun y0 y1 y2 => (kke2 y0 y1 y2).bind g) n b n_ i k_ = (gq151.l1 kke2 n b n_ i k_).bind g := by
 intro n
 induction n with
 | zero => intros; rfl
 | succ n ih => intros; simp only [gq151.l1, grd_bind, cnd_bind, bnd_bind, non_bind, ih]
def gq151.l2 {R : Type} (kke0 : Int → Option R) : Nat → List Int → Int → Int → Option R
 | 0, _, _, _ => none
 | n + 1, b, n_, i =>
  cond (decide (i < (List.length b : Int))) (
   grd (gIx i (List.length b)) <|
   gq151.l1 (fun b1 n_1 i1 => gq151.l2 kke0 n b1 n_1 (IntKind.wrap .i64 (i1 + (1 : Int)))) fuel b (iXor .i64 n_ (IntKind.wrap .i64 (rdE (.int .u8 : Kd) b (Int.toNat i)))) i (0 : Int)) (kke0 n_)
theorem gq151.l2_nat {R S : Type} (g : R → Option S) (kke0 : Int → Option R) : ∀ n b n_ i, gq151.l2 (fun y0 => (kke0 y0).bind g) n b n_ i = (gq151.l2 kke0 n b n_ i).bind g := by
 intro n
 induction n with
 | zero => intros; rfl
 | succ n ih => intros; simp only [gq151.l2, grd_bind, cnd_bind, bnd_bind, non_bind, ← gq151.l1_nat, ih]
def gq151.F {R : Type} (kk : Int → Option R) (b : List Int) : Option R :=
 gq151.l2 (fun n_ => kk (iXor .i64 n_ (4294967295 : Int))) fuel b (4294967295 : Int) (0 : Int)
theorem gq151.F_nat {R S : Type} (g : R → Option S) (kk : Int → Option R) (b) : gq151.F (fun y0 => (kk y0).bind g) b = (gq151.F kk b).bind g := by
 simp only [gq151.F, grd_bind, cnd_bind, bnd_bind, non_bind, ← gq151.l2_nat]
def gq151 (b : List Int) : Option Int := gq151.F (fun y0 => some y0) b
def gq151.out : Int → CRes := fun a => ⟨encL SV.enc [.one (.int .i64)] (a, ()), [encL SC.enc [] ()]⟩
def gq151.ps : List PS := [.val [some ((.int .u8), false)]]
def gq151.sA : List SA := [.v (.one (.slv [] (.int .u8)))]
def gq151.fi : FI := FIs gq151.sA (Int) (fun t => gq151 t.1) gq151.out gq151.ps
def gq151.E : Env := ⟨tt, lkF [], 33, 0, [], []⟩
def gq151.sh1 : SK := ⟨[.v (.one (.slv [1] (.int .u8))), .v (.one (.int .i64)), .v (.one (.int .i64)), .v (.one (.int .i64))], []⟩
def gq151.sh1e2 : SK := ⟨[.v (.one (.slv [1] (.int .u8))), .v (.one (.int .i64)), .v (.one (.int .i64))], []⟩
def gq151.ko1 : Ex → List CastAt × List Nat
 | .nrm => ([], [])
 | .ret => ([], [])
 | .ext i => cond (Nat.beq i 2) ([], [0, 3, 4]) ([], [])
def gq151.G1 (n : Nat) (R : Type) (t : gq151.sh1.T) (K : Ex → Kp → Option R) : Option R := gq151.l1 (fun y0 y1 y2 => K (.ext 2) (SK.enc gq151.sh1e2 ((y0, y1, y2, ()), ()))) n t.1.1 t.1.2.1 t.1.2.2.1 t.1.2.2.2.1
def gq151.S1 : Sum := ⟨([], [0, 3, 4, 5]), sumF gq151.sh1 (gq151.G1 fuel), gq151.ko1⟩
theorem gq151.ok1 (hE : EOk Tryz.prog (gq151.E)) : SumOk Tryz.prog gq151.E (cB (cR (cR (cB (cL (cR (cB (cB (cR (cL (cR (cR (bodyOf Tryz.f151))))))))))))) (gq151.S1) := by
 have hh : HintOk Tryz.prog gq151.E (cB (cB (cR (cR (cB (cL (cR (cB (cB (cR (cL (cR (cR (bodyOf Tryz.f151)))))))))))))) (.a) := HintOk.n1 (Q := True) (by kernel_rfl) trivial
 have h := loopS (kin := ([], [0, 3, 4, 5])) (kout := gq151.ko1) (sh := gq151.sh1) (F := gq151.G1) (ops_ok (hE.gv _)) (by kernel_rfl) hh (fun _ _ _ => rfl) (fun n R t K => by kernel_rfl) fuel
 exact HintOk.n1 (c := (cB (cR (cR (cB (cL (cR (cB (cB (cR (cL (cR (cR (bodyOf Tryz.f151)))))))))))))) (h := .s (gq151.S1)) (P := Tryz.prog) (E := gq151.E) (by kernel_rfl) h
def gq151.sh2 : SK := ⟨[.v (.one (.slv [1] (.int .u8))), .v (.one (.int .i64)), .v (.one (.int .i64))], []⟩
def gq151.sh2e0 : SK := ⟨[.v (.one (.int .i64))], []⟩
def gq151.ko2 : Ex → List CastAt × List Nat
 | .nrm => ([], [])
 | .ret => ([], [])
 | .ext i => cond (Nat.beq i 0) ([], [3]) ([], [])
def gq151.G2 (n : Nat) (R : Type) (t : gq151.sh2.T) (K : Ex → Kp → Option R) : Option R := gq151.l2 (fun y0 => K (.ext 0) (SK.enc gq151.sh2e0 ((y0, ()), ()))) n t.1.1 t.1.2.1 t.1.2.2.1
def gq151.S2 : Sum := ⟨([], [0, 3, 4]), sumF gq151.sh2 (gq151.G2 fuel), gq151.ko2⟩
theorem gq151.ok2 (hE : EOk Tryz.prog (gq151.E)) : SumOk Tryz.prog gq151.E (cB (cR (cL (cR (cR (bodyOf Tryz.f151)))))) (gq151.S2) := by
 have hh : HintOk Tryz.prog gq151.E (cB (cB (cR (cL (cR (cR (bodyOf Tryz.f151))))))) (.n (.a) (.n (.b (.n (.a) (.n (.a) (.b (.s (gq151.S1)))))) (.a))) := HintOk.n1 (Q := (True) ∧ (((True) ∧ ((True) ∧ (SumOk Tryz.prog gq151.E (cB (cR (cR (cB (cL (cR (cB (cB (cR (cL (cR (cR (bodyOf Tryz.f151))))))))))))) (gq151.S1)))) ∧ (True))) (by kernel_rfl) ⟨trivial, ⟨⟨trivial, ⟨trivial, (gq151.ok1 hE)⟩⟩, trivial⟩⟩
 have h := loopS (kin := ([], [0, 3, 4])) (kout := gq151.ko2) (sh := gq151.sh2) (F := gq151.G2) (ops_ok (hE.gv _)) (by kernel_rfl) hh (fun _ _ _ => rfl) (fun n R t K => by kernel_rfl) fuel
 exact HintOk.n1 (c := (cB (cR (cL (cR (cR (bodyOf Tryz.f151))))))) (h := .s (gq151.S2)) (P := Tryz.prog) (E := gq151.E) (by kernel_rfl) h
theorem gq151.hok (hE : EOk Tryz.prog (gq151.E)) : HintOk Tryz.prog gq151.E (bodyOf Tryz.f151) (.n (.a) (.n (.a) (.n (.n (.a) (.b (.s (gq151.S2)))) (.a)))) := HintOk.n1 (Q := (True) ∧ ((True) ∧ (((True) ∧ (SumOk Tryz.prog gq151.E (cB (cR (cL (cR (cR (bodyOf Tryz.f151)))))) (gq151.S2))) ∧ (True)))) (by kernel_rfl) ⟨trivial, ⟨trivial, ⟨⟨trivial, (gq151.ok2 hE)⟩, trivial⟩⟩⟩
theorem gq151.hE : EOk Tryz.prog (gq151.E) := EOk.of ttOk (trivial)
theorem gq151.fok : FOk Tryz.prog 151 gq151.fi :=
 fokS (E := gq151.E) (wy := ⟨[[none]], [[]], []⟩) (h := (fun gs => .n (.a) (.n (.a) (.n (.n (.a) (.b (.s (gq151.S2)))) (.a))))) (G := fun t g => gq151.F (fun y0 => g y0) t.1) (by kernel_rfl) gq151.hE Tryz.func151 (by kernel_rfl) rfl (Nat.le_refl _) (fun t => HintOk.n1 (by kernel_rfl) (gq151.hok gq151.hE)) (fun t g => gq151.F_nat g (fun y0 => some y0) _) (fun t => by kernel_rfl)
def gq110.F {R : Type} (kk : List Int → Option R) (data : List Int) : Option R :=
 (gq150 (List.length data : Int)).bind fun r =>
 grd (gRm (((List.length ([] : List Int)) + (List.length r)) * 1)) <|
 grd (gRm (((List.length (([] : List Int) ++ r)) + (List.length data)) * 1)) <|
 (gq151 ((([] : List Int) ++ r) ++ data)).bind fun r1 =>
 (gq133 r1).bind fun r2 =>
 grd (gRm (((List.length r) + (List.length r2)) * 1)) <|
 grd (gRm (((List.length (r ++ r2)) + (List.length data)) * 1)) <|
 kk ((r ++ r2) ++ data)
theorem gq110.F_nat {R S : Type} (g : R → Option S) (kk : List Int → Option R) (data) : gq110.F (fun y0 => (kk y0).bind g) data = (gq110.F kk data).bind g := by
 simp only [gq110.F, grd_bind, cnd_bind, bnd_bind, non_bind]
def gq110 (data : List Int) : Option (List Int) := gq110.F (fun y0 => some y0) data
def gq110.out : (List Int) → CRes := fun a => ⟨encL SV.enc [.one (.own [] (.int .u8) true)] (a, ()), [encL SC.enc [] ()]⟩
def gq110.ps : List PS := [.val [some ((.int .u8), false)]]
def gq110.sA : List SA := [.v (.one (.slv [] (.int .u8)))]
def gq110.fi : FI := FIs gq110.sA (List Int) (fun t => gq110 t.1) gq110.out gq110.ps
def gq110.E : Env := ⟨tt, lkF [(133, gq133.fi), (150, gq150.fi), (151, gq151.fi)], 20, 0, [], []⟩
theorem gq110.hok (hE : EOk Tryz.prog (gq110.E)) : HintOk Tryz.prog gq110.E (bodyOf Tryz.f110) (.a) := HintOk.n1 (Q := True) (by kernel_rfl) trivial
theorem gq110.hE : EOk Tryz.prog (gq110.E) := EOk.of ttOk (⟨gq133.fok, ⟨gq150.fok, ⟨gq151.fok, trivial⟩⟩⟩)
theorem gq110.fok : FOk Tryz.prog 110 gq110.fi :=
 fokS (E := gq110.E) (wy := ⟨[[some ((.int .u8), true)]], [[]], []⟩) (h := (fun gs => .a)) (G := fun t g => gq110.F (fun y0 => g y0) t.1) (by kernel_rfl) gq110.hE Tryz.func110 (by kernel_rfl) rfl (Nat.le_refl _) (fun t => HintOk.n1 (by kernel_rfl) (gq110.hok gq110.hE)) (fun t g => gq110.F_nat g (fun y0 => some y0) _) (fun t => by kernel_rfl)
def gq97.l1 {R : Type} (kke0 : Int → List ByteArray → Option R) (kkr : Int → Int → List ByteArray → Option R) : Nat → List Int → Int → List ByteArray → Option R
 | 0, _, _, _ => none
 | n + 1, b, at_, out =>
  cond (decide (at_ < (List.length b : Int))) (
   cond (decide ((IntKind.wrap .i64 ((List.length b : Int) - at_)) < (6 : Int))) (kkr at_ (16 : Int) out) (
    grd (gIx at_ (List.length b)) <|
    grd (gIx (IntKind.wrap .i64 (at_ + (1 : Int))) (List.length b)) <|
    cond ((IntKind.wrap .i64 ((IntKind.wrap .i64 ((IntKind.wrap .i64 (rdE (.int .u8 : Kd) b (Int.toNat at_))) * (256 : Int))) + (IntKind.wrap .i64 (rdE (.int .u8 : Kd) b (Int.toNat (IntKind.wrap .i64 (at_ + (1 : Int)))))))) == (0 : Int)) (kkr at_ (8 : Int) out) (
     cond (decide ((IntKind.wrap .i64 ((IntKind.wrap .i64 ((IntKind.wrap .i64 (rdE (.int .u8 : Kd) b (Int.toNat at_))) * (256 : Int))) + (IntKind.wrap .i64 (rdE (.int .u8 : Kd) b (Int.toNat (IntKind.wrap .i64 (at_ + (1 : Int)))))))) > (200 : Int))) (kkr at_ (8 : Int) out) (
      cond (decide ((IntKind.wrap .i64 ((IntKind.wrap .i64 ((List.length b : Int) - at_)) - (6 : Int))) < (IntKind.wrap .i64 ((IntKind.wrap .i64 ((IntKind.wrap .i64 (rdE (.int .u8 : Kd) b (Int.toNat at_))) * (256 : Int))) + (IntKind.wrap .i64 (rdE (.int .u8 : Kd) b (Int.toNat (IntKind.wrap .i64 (at_ + (1 : Int)))))))))) (kkr at_ (16 : Int) out) (
       grd (gSl (IntKind.wrap .i64 (at_ + (6 : Int))) (IntKind.wrap .i64 ((IntKind.wrap .i64 (at_ + (6 : Int))) + (IntKind.wrap .i64 ((IntKind.wrap .i64 ((IntKind.wrap .i64 (rdE (.int .u8 : Kd) b (Int.toNat at_))) * (256 : Int))) + (IntKind.wrap .i64 (rdE (.int .u8 : Kd) b (Int.toNat (IntKind.wrap .i64 (at_ + (1 : Int)))))))))) (List.length b)) <|
       (gq110 (sub b (IntKind.wrap .i64 (at_ + (6 : Int))) (IntKind.wrap .i64 ((IntKind.wrap .i64 (at_ + (6 : Int))) + (IntKind.wrap .i64 ((IntKind.wrap .i64 ((IntKind.wrap .i64 (rdE (.int .u8 : Kd) b (Int.toNat at_))) * (256 : Int))) + (IntKind.wrap .i64 (rdE (.int .u8 : Kd) b (Int.toNat (IntKind.wrap .i64 (at_ + (1 : Int)))))))))))).bind fun r =>
       grd (gSl at_ (IntKind.wrap .i64 ((IntKind.wrap .i64 (at_ + (6 : Int))) + (IntKind.wrap .i64 ((IntKind.wrap .i64 ((IntKind.wrap .i64 (rdE (.int .u8 : Kd) b (Int.toNat at_))) * (256 : Int))) + (IntKind.wrap .i64 (rdE (.int .u8 : Kd) b (Int.toNat (IntKind.wrap .i64 (at_ + (1 : Int)))))))))) (List.length b)) <|
       cond (!(sEq (strL r) (strL (sub b at_ (IntKind.wrap .i64 ((IntKind.wrap .i64 (at_ + (6 : Int))) + (IntKind.wrap .i64 ((IntKind.wrap .i64 ((IntKind.wrap .i64 (rdE (.int .u8 : Kd) b (Int.toNat at_))) * (256 : Int))) + (IntKind.wrap .i64 (rdE (.int .u8 : Kd) b (Int.toNat (IntKind.wrap .i64 (at_ + (1 : Int)))))))))))))) (kkr at_ (8 : Int) out) (
        grd (gRm (((List.length out) + (List.length [strL (sub b (IntKind.wrap .i64 (at_ + (6 : Int))) (IntKind.wrap .i64 ((IntKind.wrap .i64 (at_ + (6 : Int))) + (IntKind.wrap .i64 ((IntKind.wrap .i64 ((IntKind.wrap .i64 (rdE (.int .u8 : Kd) b (Int.toNat at_))) * (256 : Int))) + (IntKind.wrap .i64 (rdE (.int .u8 : Kd) b (Int.toNat (IntKind.wrap .i64 (at_ + (1 : Int)))))))))))])) * 16)) <|
        gq97.l1 kke0 kkr n b (IntKind.wrap .i64 (at_ + (IntKind.wrap .i64 ((6 : Int) + (IntKind.wrap .i64 ((IntKind.wrap .i64 ((IntKind.wrap .i64 (rdE (.int .u8 : Kd) b (Int.toNat at_))) * (256 : Int))) + (IntKind.wrap .i64 (rdE (.int .u8 : Kd) b (Int.toNat (IntKind.wrap .i64 (at_ + (1 : Int)))))))))))) (out ++ [strL (sub b (IntKind.wrap .i64 (at_ + (6 : Int))) (IntKind.wrap .i64 ((IntKind.wrap .i64 (at_ + (6 : Int))) + (IntKind.wrap .i64 ((IntKind.wrap .i64 ((IntKind.wrap .i64 (rdE (.int .u8 : Kd) b (Int.toNat at_))) * (256 : Int))) + (IntKind.wrap .i64 (rdE (.int .u8 : Kd) b (Int.toNat (IntKind.wrap .i64 (at_ + (1 : Int)))))))))))]))))))) (kke0 at_ out)
theorem gq97.l1_nat {R S : Type} (g : R → Option S) (kke0 : Int → List ByteArray → Option R) (kkr : Int → Int → List ByteArray → Option R) : ∀ n b at_ out, gq97.l1 (fun y0 y1 => (kke0 y0 y1).bind g) (fun y0 y1 y2 => (kkr y0 y1 y2).bind g) n b at_ out = (gq97.l1 kke0 kkr n b at_ out).bind g := by
 intro n
 induction n with
 | zero => intros; rfl
 | succ n ih => intros; simp only [gq97.l1, grd_bind, cnd_bind, bnd_bind, non_bind, ih]
def gq97.F {R : Type} (kk : List ByteArray → Int → Int → Option R) (b : List Int) : Option R :=
 gq97.l1 (fun at_ out => kk out at_ (0 : Int)) (fun i i1 l => kk l i i1) fuel b (0 : Int) ([] : List ByteArray)
theorem gq97.F_nat {R S : Type} (g : R → Option S) (kk : List ByteArray → Int → Int → Option R) (b) : gq97.F (fun y0 y1 y2 => (kk y0 y1 y2).bind g) b = (gq97.F kk b).bind g := by
 simp only [gq97.F, grd_bind, cnd_bind, bnd_bind, non_bind, ← gq97.l1_nat]
def gq97 (b : List Int) : Option (List ByteArray × Int × Int) := gq97.F (fun y0 y1 y2 => some (y0, y1, y2)) b
def gq97.out : (List ByteArray × Int × Int) → CRes := fun a => ⟨encL SV.enc [.one (.own [] .str true), .one (.int .i64), .one (.int .i64)] (a.1, a.2.1, a.2.2, ()), [encL SC.enc [] ()]⟩
def gq97.ps : List PS := [.val [some ((.int .u8), false)]]
def gq97.sA : List SA := [.v (.one (.slv [] (.int .u8)))]
def gq97.fi : FI := FIs gq97.sA (List ByteArray × Int × Int) (fun t => gq97 t.1) gq97.out gq97.ps
def gq97.E : Env := ⟨tt, lkF [(110, gq110.fi)], 84, 0, [], []⟩
def gq97.sh1 : SK := ⟨[.v (.one (.slv [1] (.int .u8))), .v (.one (.slo 0)), .v (.one (.int .i64))], [.arr .str [] true]⟩
def gq97.sh1e0 : SK := ⟨[.v (.one (.slo 0)), .v (.one (.int .i64))], [.arr .str [] true]⟩
def gq97.sh1r : SK := ⟨[.v (.one (.slo 0)), .v (.one (.int .i64)), .v (.one (.int .i64))], [.arr .str [] true]⟩
def gq97.ko1 : Ex → List CastAt × List Nat
 | .nrm => ([], [])
 | .ret => ([], [2, 3, 4])
 | .ext i => cond (Nat.beq i 0) ([], [5, 6]) ([], [])
def gq97.G1 (n : Nat) (R : Type) (t : gq97.sh1.T) (K : Ex → Kp → Option R) : Option R := gq97.l1 (fun y0 y1 => K (.ext 0) (SK.enc gq97.sh1e0 (((), y0, ()), (y1, ())))) (fun y0 y1 y2 => K .ret (SK.enc gq97.sh1r (((), y0, y1, ()), (y2, ())))) n t.1.1 t.1.2.2.1 t.2.1
def gq97.S1 : Sum := ⟨([], [0, 5, 6]), sumF gq97.sh1 (gq97.G1 fuel), gq97.ko1⟩
theorem gq97.ok1 (hE : EOk Tryz.prog (gq97.E)) : SumOk Tryz.prog gq97.E (cB (cL (cR (cR (cR (bodyOf Tryz.f97)))))) (gq97.S1) := by
 have hh : HintOk Tryz.prog gq97.E (cB (cB (cL (cR (cR (cR (bodyOf Tryz.f97))))))) (.a) := HintOk.n1 (Q := True) (by kernel_rfl) trivial
 have h := loopS (kin := ([], [0, 5, 6])) (kout := gq97.ko1) (sh := gq97.sh1) (F := gq97.G1) (ops_ok (hE.gv _)) (by kernel_rfl) hh (fun _ _ _ => rfl) (fun n R t K => by kernel_rfl) fuel
 exact HintOk.n1 (c := (cB (cL (cR (cR (cR (bodyOf Tryz.f97))))))) (h := .s (gq97.S1)) (P := Tryz.prog) (E := gq97.E) (by kernel_rfl) h
theorem gq97.hok (hE : EOk Tryz.prog (gq97.E)) : HintOk Tryz.prog gq97.E (bodyOf Tryz.f97) (.n (.a) (.n (.a) (.n (.a) (.n (.b (.s (gq97.S1))) (.a))))) := HintOk.n1 (Q := (True) ∧ ((True) ∧ ((True) ∧ ((SumOk Tryz.prog gq97.E (cB (cL (cR (cR (cR (bodyOf Tryz.f97)))))) (gq97.S1)) ∧ (True))))) (by kernel_rfl) ⟨trivial, ⟨trivial, ⟨trivial, ⟨(gq97.ok1 hE), trivial⟩⟩⟩⟩
theorem gq97.hE : EOk Tryz.prog (gq97.E) := EOk.of ttOk (⟨gq110.fok, trivial⟩)
theorem gq97.fok : FOk Tryz.prog 97 gq97.fi :=
 fokS (E := gq97.E) (wy := ⟨[[some (.str, true)], [none], [none]], [[]], []⟩) (h := (fun gs => .n (.a) (.n (.a) (.n (.a) (.n (.b (.s (gq97.S1))) (.a)))))) (G := fun t g => gq97.F (fun y0 y1 y2 => g (y0, y1, y2)) t.1) (by kernel_rfl) gq97.hE Tryz.func97 (by kernel_rfl) rfl (Nat.le_refl _) (fun t => HintOk.n1 (by kernel_rfl) (gq97.hok gq97.hE)) (fun t g => gq97.F_nat g (fun y0 y1 y2 => some (y0, y1, y2)) _) (fun t => by kernel_rfl)
def gq98.l1 {R : Type} (kke0 : Int → List Int → Int → Bool → Option R) (kkr : Int → List Int → Int → Bool → Option R) : Nat → Int → Int → Int → List Int → Int → Bool → Option R
 | 0, _, _, _, _, _, _ => none
 | n + 1, n_, out, i, r, r1, r2 =>
  cond (decide (i < n_)) (
   cond (r2) (kkr (0 : Int) r r1 true) (
    cond (decide (r1 ≥ (List.length r : Int))) (kkr (0 : Int) r r1 true) (
     grd (gIx r1 (List.length r)) <|
     gq98.l1 kke0 kkr n n_ (IntKind.wrap .i64 ((IntKind.wrap .i64 (out * (256 : Int))) + (IntKind.wrap .i64 (rdE (.int .u8 : Kd) r (Int.toNat r1))))) (IntKind.wrap .i64 (i + (1 : Int))) r (IntKind.wrap .i64 (r1 + (1 : Int))) r2))) (kke0 out r r1 r2)
theorem gq98.l1_nat {R S : Type} (g : R → Option S) (kke0 : Int → List Int → Int → Bool → Option R) (kkr : Int → List Int → Int → Bool → Option R) : ∀ n n_ out i r r1 r2, gq98.l1 (fun y0 y1 y2 y3 => (kke0 y0 y1 y2 y3).bind g) (fun y0 y1 y2 y3 => (kkr y0 y1 y2 y3).bind g) n n_ out i r r1 r2 = (gq98.l1 kke0 kkr n n_ out i r r1 r2).bind g := by
 intro n
 induction n with
 | zero => intros; rfl
 | succ n ih => intros; simp only [gq98.l1, grd_bind, cnd_bind, bnd_bind, non_bind, ih]
def gq98.F {R : Type} (kk : Int → List Int → Int → Bool → Option R) (r_b : List Int) (r_at : Int) (r_bad : Bool) (n_ : Int) : Option R :=
 gq98.l1 (fun out r r1 r2 => kk out r r1 r2) (fun i r3 r4 r5 => kk i r3 r4 r5) fuel n_ (0 : Int) (0 : Int) r_b r_at r_bad
theorem gq98.F_nat {R S : Type} (g : R → Option S) (kk : Int → List Int → Int → Bool → Option R) (r_b r_at r_bad n_) : gq98.F (fun y0 y1 y2 y3 => (kk y0 y1 y2 y3).bind g) r_b r_at r_bad n_ = (gq98.F kk r_b r_at r_bad n_).bind g := by
 simp only [gq98.F, grd_bind, cnd_bind, bnd_bind, non_bind, ← gq98.l1_nat]
def gq98 (r_b : List Int) (r_at : Int) (r_bad : Bool) (n_ : Int) : Option (Int × List Int × Int × Bool) := gq98.F (fun y0 y1 y2 y3 => some (y0, y1, y2, y3)) r_b r_at r_bad n_
def gq98.out : (Int × List Int × Int × Bool) → CRes := fun a => ⟨encL SV.enc [.one (.int .i64)] (a.1, ()), [encL SC.enc [.slv [1] (.int .u8), .int .i64, .bool] (a.2.1, a.2.2.1, a.2.2.2, ()), encL SC.enc [] ()]⟩
def gq98.ps : List PS := [.ptr [some ((.int .u8), false), none, none], .val [none]]
def gq98.sA : List SA := [.ptr [.slv [] (.int .u8), .int .i64, .bool], .v (.one (.int .i64))]
def gq98.fi : FI := FIs gq98.sA (Int × List Int × Int × Bool) (fun t => gq98 t.1.1 t.1.2.1 t.1.2.2.1 t.2.1) gq98.out gq98.ps
def gq98.E : Env := ⟨tt, lkF [], 53, 1, [], []⟩
def gq98.sh1 : SK := ⟨[.v (.one (.bptr 0 0)), .v (.one (.int .i64)), .v (.one (.int .i64)), .v (.one (.int .i64))], [.box [.slv [1] (.int .u8), .int .i64, .bool]]⟩
def gq98.sh1e0 : SK := ⟨[.v (.one (.bptr 0 0)), .v (.one (.int .i64))], [.box [.slv [1] (.int .u8), .int .i64, .bool]]⟩
def gq98.sh1r : SK := ⟨[.v (.one (.bptr 0 0)), .v (.one (.int .i64))], [.box [.slv [1] (.int .u8), .int .i64, .bool]]⟩
def gq98.ko1 : Ex → List CastAt × List Nat
 | .nrm => ([], [])
 | .ret => ([], [0, 4])
 | .ext i => cond (Nat.beq i 0) ([], [0, 5]) ([], [])
def gq98.G1 (n : Nat) (R : Type) (t : gq98.sh1.T) (K : Ex → Kp → Option R) : Option R := gq98.l1 (fun y0 y1 y2 y3 => K (.ext 0) (SK.enc gq98.sh1e0 (((), y0, ()), ((y1, y2, y3, ()), ())))) (fun y0 y1 y2 y3 => K .ret (SK.enc gq98.sh1r (((), y0, ()), ((y1, y2, y3, ()), ())))) n t.1.2.1 t.1.2.2.1 t.1.2.2.2.1 t.2.1.1 t.2.1.2.1 t.2.1.2.2.1
def gq98.S1 : Sum := ⟨([], [0, 1, 5, 6]), sumF gq98.sh1 (gq98.G1 fuel), gq98.ko1⟩
theorem gq98.ok1 (hE : EOk Tryz.prog (gq98.E)) : SumOk Tryz.prog gq98.E (cB (cR (cL (cR (cR (bodyOf Tryz.f98)))))) (gq98.S1) := by
 have hh : HintOk Tryz.prog gq98.E (cB (cB (cR (cL (cR (cR (bodyOf Tryz.f98))))))) (.a) := HintOk.n1 (Q := True) (by kernel_rfl) trivial
 have h := loopS (kin := ([], [0, 1, 5, 6])) (kout := gq98.ko1) (sh := gq98.sh1) (F := gq98.G1) (ops_ok (hE.gv _)) (by kernel_rfl) hh (fun _ _ _ => rfl) (fun n R t K => by kernel_rfl) fuel
 exact HintOk.n1 (c := (cB (cR (cL (cR (cR (bodyOf Tryz.f98))))))) (h := .s (gq98.S1)) (P := Tryz.prog) (E := gq98.E) (by kernel_rfl) h
theorem gq98.hok (hE : EOk Tryz.prog (gq98.E)) : HintOk Tryz.prog gq98.E (bodyOf Tryz.f98) (.n (.a) (.n (.a) (.n (.n (.a) (.b (.s (gq98.S1)))) (.a)))) := HintOk.n1 (Q := (True) ∧ ((True) ∧ (((True) ∧ (SumOk Tryz.prog gq98.E (cB (cR (cL (cR (cR (bodyOf Tryz.f98)))))) (gq98.S1))) ∧ (True)))) (by kernel_rfl) ⟨trivial, ⟨trivial, ⟨⟨trivial, (gq98.ok1 hE)⟩, trivial⟩⟩⟩
theorem gq98.hE : EOk Tryz.prog (gq98.E) := EOk.of ttOk (trivial)
theorem gq98.fok : FOk Tryz.prog 98 gq98.fi :=
 fokS (E := gq98.E) (wy := ⟨[[none]], [[some ((.int .u8), false), none, none], []], []⟩) (h := (fun gs => .n (.a) (.n (.a) (.n (.n (.a) (.b (.s (gq98.S1)))) (.a))))) (G := fun t g => gq98.F (fun y0 y1 y2 y3 => g (y0, y1, y2, y3)) t.1.1 t.1.2.1 t.1.2.2.1 t.2.1) (by kernel_rfl) gq98.hE Tryz.func98 (by kernel_rfl) rfl (Nat.le_refl _) (fun t => HintOk.n1 (by kernel_rfl) (gq98.hok gq98.hE)) (fun t g => gq98.F_nat g (fun y0 y1 y2 y3 => some (y0, y1, y2, y3)) _ _ _ _) (fun t => by kernel_rfl)
def gq94.j1 {R : Type} (kkn : Int → ByteArray → Int → Bool → Int → List (El kFile) → Int → Int → Int → Int → List Int → List ByteArray → List ByteArray → List ByteArray → Option R) (kkr : Int → Int → Int → List ByteArray → List ByteArray → Option R) (i : Int) (data : ByteArray) (good : Int) (code : Int) (last : Bool) (d : Int) (d1 : List (El kFile)) (i1 : Int) (i2 : Int) (w : Int) (w1 : Int) (list : List Int) (frames : List ByteArray) (l : List ByteArray) (l1 : List ByteArray) : Option R :=
 cond (code == (8 : Int)) (kkr (8 : Int) w w1 l l1) (
  cond (code == (16 : Int)) (
   cond (!last) (kkr (8 : Int) w w1 l l1) (kkn i data good last d d1 i1 i2 w w1 list frames l l1)) (kkn i data good last d d1 i1 i2 w w1 list frames l l1))
theorem gq94.j1_nat {R S : Type} (g : R → Option S) (kkn : Int → ByteArray → Int → Bool → Int → List (El kFile) → Int → Int → Int → Int → List Int → List ByteArray → List ByteArray → List ByteArray → Option R) (kkr : Int → Int → Int → List ByteArray → List ByteArray → Option R) (i data good code last d d1 i1 i2 w w1 list frames l l1) : gq94.j1 (fun y0 y1 y2 y3 y4 y5 y6 y7 y8 y9 y10 y11 y12 y13 => (kkn y0 y1 y2 y3 y4 y5 y6 y7 y8 y9 y10 y11 y12 y13).bind g) (fun y0 y1 y2 y3 y4 => (kkr y0 y1 y2 y3 y4).bind g) i data good code last d d1 i1 i2 w w1 list frames l l1 = (gq94.j1 kkn kkr i data good code last d d1 i1 i2 w w1 list frames l l1).bind g := by
 simp only [gq94.j1, grd_bind, cnd_bind, bnd_bind, non_bind]
def gq94.j2 {R : Type} (kkn : Int → ByteArray → Int → Bool → Int → List (El kFile) → Int → Int → Int → Int → List Int → List ByteArray → List ByteArray → List ByteArray → Option R) (kkr : Int → Int → Int → List ByteArray → List ByteArray → Option R) (i : Int) (data : ByteArray) (good : Int) (last : Bool) (d : Int) (d1 : List (El kFile)) (i1 : Int) (i2 : Int) (w : Int) (w1 : Int) (list : List Int) (frames : List ByteArray) (l : List ByteArray) (l1 : List ByteArray) : Option R :=
 cond (decide (i > (0 : Int))) (
  grd (gIx i (List.length list)) <|
  grd (gIx (IntKind.wrap .i64 (i - (1 : Int))) (List.length list)) <|
  cond ((rdE (.int .i64 : Kd) list (Int.toNat i)) != (IntKind.wrap .i64 ((rdE (.int .i64 : Kd) list (Int.toNat (IntKind.wrap .i64 (i - (1 : Int))))) + (1 : Int)))) (kkr (3 : Int) w w1 l l1) (kkn i data good last d d1 i1 i2 w w1 list frames l l1)) (kkn i data good last d d1 i1 i2 w w1 list frames l l1)
theorem gq94.j2_nat {R S : Type} (g : R → Option S) (kkn : Int → ByteArray → Int → Bool → Int → List (El kFile) → Int → Int → Int → Int → List Int → List ByteArray → List ByteArray → List ByteArray → Option R) (kkr : Int → Int → Int → List ByteArray → List ByteArray → Option R) (i data good last d d1 i1 i2 w w1 list frames l l1) : gq94.j2 (fun y0 y1 y2 y3 y4 y5 y6 y7 y8 y9 y10 y11 y12 y13 => (kkn y0 y1 y2 y3 y4 y5 y6 y7 y8 y9 y10 y11 y12 y13).bind g) (fun y0 y1 y2 y3 y4 => (kkr y0 y1 y2 y3 y4).bind g) i data good last d d1 i1 i2 w w1 list frames l l1 = (gq94.j2 kkn kkr i data good last d d1 i1 i2 w w1 list frames l l1).bind g := by
 simp only [gq94.j2, grd_bind, cnd_bind, bnd_bind, non_bind]
def gq94.j3 {R : Type} (kkn : Int → ByteArray → Int → Int → List (El kFile) → Int → Int → Int → Int → List Int → List ByteArray → List ByteArray → List ByteArray → Option R) (kkr : Int → Int → Int → List ByteArray → List ByteArray → Option R) (i : Int) (data : ByteArray) (good : Int) (first : Int) (d : Int) (d1 : List (El kFile)) (i1 : Int) (i2 : Int) (w : Int) (w1 : Int) (list : List Int) (frames : List ByteArray) (l : List ByteArray) (l1 : List ByteArray) : Option R :=
 cond (i == (0 : Int)) (kkn i data good d d1 i1 i2 first w1 list frames l l1) (
  cond (first != (IntKind.wrap .i64 (w + (List.length l : Int)))) (kkr (3 : Int) w w1 l l1) (kkn i data good d d1 i1 i2 w w1 list frames l l1))
theorem gq94.j3_nat {R S : Type} (g : R → Option S) (kkn : Int → ByteArray → Int → Int → List (El kFile) → Int → Int → Int → Int → List Int → List ByteArray → List ByteArray → List ByteArray → Option R) (kkr : Int → Int → Int → List ByteArray → List ByteArray → Option R) (i data good first d d1 i1 i2 w w1 list frames l l1) : gq94.j3 (fun y0 y1 y2 y3 y4 y5 y6 y7 y8 y9 y10 y11 y12 => (kkn y0 y1 y2 y3 y4 y5 y6 y7 y8 y9 y10 y11 y12).bind g) (fun y0 y1 y2 y3 y4 => (kkr y0 y1 y2 y3 y4).bind g) i data good first d d1 i1 i2 w w1 list frames l l1 = (gq94.j3 kkn kkr i data good first d d1 i1 i2 w w1 list frames l l1).bind g := by
 simp only [gq94.j3, grd_bind, cnd_bind, bnd_bind, non_bind]
def gq94.l4 {R : Type} (kke0 : Int → Int → Int → Int → List ByteArray → List ByteArray → Option R) (kkr : Int → Int → Int → List ByteArray → List ByteArray → Option R) : Nat → Int → Int → List (El kFile) → Int → Int → Int → Int → List Int → List ByteArray → List ByteArray → Option R
 | 0, _, _, _, _, _, _, _, _, _, _ => none
 | n + 1, i, d, d1, i1, i2, w, w1, list, l, l1 =>
  cond (decide (i < (List.length list : Int))) (
   grd (gIx i (List.length list)) <|
   (gq96 d d1 (rdE (.int .i64 : Kd) list (Int.toNat i))).bind fun r =>
   (gq97 (bytesL r)).bind fun r1 =>
   gq94.j1 (fun i3 data good last d2 d3 i4 i5 w2 w3 list1 frames l2 l3 =>
    gq94.j2 (fun i6 data1 good1 last1 d4 d5 i7 i8 w4 w5 list2 frames1 l4 l5 =>
     cond ((List.length frames1 : Int) == (0 : Int)) (
      cond (!last1) (kkr (3 : Int) w4 w5 l4 l5) (
       grd (gIx i6 (List.length list2)) <|
       (gq99 (rdE (.int .i64 : Kd) list2 (Int.toNat i6))).bind fun r2 =>
       grd (gRm (((List.length l5) + (List.length [r2])) * 16)) <|
       kkr (0 : Int) w4 (ByteArray.size data1 : Int) l4 (l5 ++ [r2]))) (
      grd (gIx (0 : Int) (List.length frames1)) <|
      cond ((ByteArray.size (rdE (.str : Kd) frames1 (Int.toNat (0 : Int))) : Int) != (4 : Int)) (kkr (3 : Int) w4 w5 l4 l5) (
       grd (gIx (0 : Int) (List.length frames1)) <|
       (gq98 (bytesL (rdE (.str : Kd) frames1 (Int.toNat (0 : Int)))) (0 : Int) false (4 : Int)).bind fun r3 =>
       gq94.j3 (fun i9 data2 good2 d6 d7 i10 i11 w6 w7 list3 frames2 l6 l7 =>
        grd (gIx i9 (List.length list3)) <|
        (gq99 (rdE (.int .i64 : Kd) list3 (Int.toNat i9))).bind fun r4 =>
        grd (gRm (((List.length l7) + (List.length [r4])) * 16)) <|
        grd (gSl (1 : Int) (List.length frames2 : Int) (List.length frames2)) <|
        grd (gRm (((List.length l6) + (List.length (sub frames2 (1 : Int) (List.length frames2 : Int)))) * 16)) <|
        gq94.l4 kke0 kkr n (IntKind.wrap .i64 (i9 + (1 : Int))) d6 d7 i10 i11 w6 (IntKind.wrap .i64 ((ByteArray.size data2 : Int) - good2)) list3 (l6 ++ (sub frames2 (1 : Int) (List.length frames2 : Int))) (l7 ++ [r4])) (fun i12 i13 i14 l8 l9 => kkr i12 i13 i14 l8 l9) i6 data1 good1 r3.1 d4 d5 i7 i8 w4 w5 list2 frames1 l4 l5))) (fun i15 i16 i17 l10 l11 => kkr i15 i16 i17 l10 l11) i3 data good last d2 d3 i4 i5 w2 w3 list1 frames l2 l3) (fun i18 i19 i20 l12 l13 => kkr i18 i19 i20 l12 l13) i r r1.2.1 r1.2.2 (i == (IntKind.wrap .i64 ((List.length list : Int) - (1 : Int)))) d d1 i1 i2 w w1 list r1.1 l l1) (kke0 i1 i2 w w1 l l1)
theorem gq94.l4_nat {R S : Type} (g : R → Option S) (kke0 : Int → Int → Int → Int → List ByteArray → List ByteArray → Option R) (kkr : Int → Int → Int → List ByteArray → List ByteArray → Option R) : ∀ n i d d1 i1 i2 w w1 list l l1, gq94.l4 (fun y0 y1 y2 y3 y4 y5 => (kke0 y0 y1 y2 y3 y4 y5).bind g) (fun y0 y1 y2 y3 y4 => (kkr y0 y1 y2 y3 y4).bind g) n i d d1 i1 i2 w w1 list l l1 = (gq94.l4 kke0 kkr n i d d1 i1 i2 w w1 list l l1).bind g := by
 intro n
 induction n with
 | zero => intros; rfl
 | succ n ih => intros; simp only [gq94.l4, grd_bind, cnd_bind, bnd_bind, non_bind, ← gq94.j1_nat, ← gq94.j2_nat, ← gq94.j3_nat, ih]
def gq94.F {R : Type} (kk : Int → List ByteArray → List ByteArray → Int → Int → Option R) (d_Room : Int) (d_Files : List (El kFile)) : Option R :=
 (gq95 d_Room d_Files).bind fun r =>
 gq94.l4 (fun i i1 w w1 l l1 => kk w l l1 w1 (0 : Int)) (fun i2 i3 i4 l2 l3 => kk i3 l2 l3 i4 i2) fuel (0 : Int) d_Room d_Files (0 : Int) (0 : Int) (0 : Int) (0 : Int) r ([] : List ByteArray) ([] : List ByteArray)
theorem gq94.F_nat {R S : Type} (g : R → Option S) (kk : Int → List ByteArray → List ByteArray → Int → Int → Option R) (d_Room d_Files) : gq94.F (fun y0 y1 y2 y3 y4 => (kk y0 y1 y2 y3 y4).bind g) d_Room d_Files = (gq94.F kk d_Room d_Files).bind g := by
 simp only [gq94.F, grd_bind, cnd_bind, bnd_bind, non_bind, ← gq94.l4_nat]
def gq94 (d_Room : Int) (d_Files : List (El kFile)) : Option (Int × List ByteArray × List ByteArray × Int × Int) := gq94.F (fun y0 y1 y2 y3 y4 => some (y0, y1, y2, y3, y4)) d_Room d_Files
def gq94.out : (Int × List ByteArray × List ByteArray × Int × Int) → CRes := fun a => ⟨encL SV.enc [.agg [.int .i64, .own [] .str true, .own [] .str true, .int .i64], .one (.int .i64)] ((a.1, a.2.1, a.2.2.1, a.2.2.2.1, ()), a.2.2.2.2, ()), [encL SC.enc [] ()]⟩
def gq94.ps : List PS := [.val [none, some (kFile, false)]]
def gq94.sA : List SA := [.v (.agg [.int .i64, .slv [] kFile])]
def gq94.fi : FI := FIs gq94.sA (Int × List ByteArray × List ByteArray × Int × Int) (fun t => gq94 t.1.1 t.1.2.1) gq94.out gq94.ps
def gq94.E : Env := ⟨tt, lkF [(95, gq95.fi), (96, gq96.fi), (97, gq97.fi), (98, gq98.fi), (99, gq99.fi)], 139, 0, [], []⟩
def gq94.sh1 : SK := ⟨[.v (.one (.bptr 0 0)), .v (.one (.bptr 1 0)), .v (.one (.bptr 2 0)), .v (.one (.slo 3)), .v (.one (.int .i64)), .v (.one (.str)), .v (.one (.slo 4)), .v (.one (.int .i64)), .v (.one (.int .i64)), .v (.one (.bool))], [.box [.int .i64, .slv [1] kFile], .box [.int .i64, .nil, .nil, .int .i64], .box [.int .i64, .slo 5, .slo 6, .int .i64], .arr (.int .i64) [] true, .arr .str [] true, .arr .str [] true, .arr .str [] true]⟩
def gq94.sh1n : SK := ⟨[.v (.one (.bptr 0 0)), .v (.one (.bptr 1 0)), .v (.one (.bptr 2 0)), .v (.one (.slo 3)), .v (.one (.int .i64)), .v (.one (.str)), .v (.one (.slo 4)), .v (.one (.int .i64)), .v (.one (.bool))], [.box [.int .i64, .slv [1] kFile], .box [.int .i64, .nil, .nil, .int .i64], .box [.int .i64, .slo 5, .slo 6, .int .i64], .arr (.int .i64) [] true, .arr .str [] true, .arr .str [] true, .arr .str [] true]⟩
def gq94.sh1r : SK := ⟨[.v (.one (.bptr 0 0)), .v (.one (.int .i64))], [.box [.int .i64, .slo 1, .slo 2, .int .i64], .arr .str [] true, .arr .str [] true]⟩
def gq94.ko1 : Ex → List CastAt × List Nat
 | .nrm => ([], [1, 2, 4, 5, 6, 7, 8, 9, 11])
 | .ret => ([], [2, 3])
 | .ext i => ([], [])
def gq94.G1 (R : Type) (t : gq94.sh1.T) (K : Ex → Kp → Option R) : Option R := gq94.j1 (fun y0 y1 y2 y3 y4 y5 y6 y7 y8 y9 y10 y11 y12 y13 => K .nrm (SK.enc gq94.sh1n (((), (), (), (), y0, y1, (), y2, y3, ()), ((y4, y5, ()), (y6, (), (), y7, ()), (y8, (), (), y9, ()), y10, y11, y12, y13, ())))) (fun y0 y1 y2 y3 y4 => K .ret (SK.enc gq94.sh1r (((), y0, ()), ((y1, (), (), y2, ()), y3, y4, ())))) t.1.2.2.2.2.1 t.1.2.2.2.2.2.1 t.1.2.2.2.2.2.2.2.1 t.1.2.2.2.2.2.2.2.2.1 t.1.2.2.2.2.2.2.2.2.2.1 t.2.1.1 t.2.1.2.1 t.2.2.1.1 t.2.2.1.2.2.2.1 t.2.2.2.1.1 t.2.2.2.1.2.2.2.1 t.2.2.2.2.1 t.2.2.2.2.2.1 t.2.2.2.2.2.2.1 t.2.2.2.2.2.2.2.1
def gq94.S1 : Sum := ⟨([], [1, 2, 4, 5, 6, 7, 8, 9, 10, 11]), sumF gq94.sh1 (gq94.G1), gq94.ko1⟩
theorem gq94.ok1 (hE : EOk Tryz.prog (gq94.E)) : SumOk Tryz.prog gq94.E (cL (cR (cR (cR (cB (cL (cR (cB (cB (cR (cL (cR (cR (cR (bodyOf Tryz.f94))))))))))))))) (gq94.S1) := by
 have hh : HintOk Tryz.prog gq94.E (cL (cR (cR (cR (cB (cL (cR (cB (cB (cR (cL (cR (cR (cR (bodyOf Tryz.f94))))))))))))))) (.a) := HintOk.n1 (Q := True) (by kernel_rfl) trivial
 exact sumS (kin := ([], [1, 2, 4, 5, 6, 7, 8, 9, 10, 11])) (kout := gq94.ko1) (sh := gq94.sh1) (F := gq94.G1) (ops_ok (hE.gv _)) (by kernel_rfl) hh (fun R t K => by kernel_rfl)
def gq94.sh2 : SK := ⟨[.v (.one (.bptr 0 0)), .v (.one (.bptr 1 0)), .v (.one (.bptr 2 0)), .v (.one (.slo 3)), .v (.one (.int .i64)), .v (.one (.str)), .v (.one (.slo 4)), .v (.one (.int .i64)), .v (.one (.bool))], [.box [.int .i64, .slv [1] kFile], .box [.int .i64, .nil, .nil, .int .i64], .box [.int .i64, .slo 5, .slo 6, .int .i64], .arr (.int .i64) [] true, .arr .str [] true, .arr .str [] true, .arr .str [] true]⟩
def gq94.sh2n : SK := ⟨[.v (.one (.bptr 0 0)), .v (.one (.bptr 1 0)), .v (.one (.bptr 2 0)), .v (.one (.slo 3)), .v (.one (.int .i64)), .v (.one (.str)), .v (.one (.slo 4)), .v (.one (.int .i64)), .v (.one (.bool))], [.box [.int .i64, .slv [1] kFile], .box [.int .i64, .nil, .nil, .int .i64], .box [.int .i64, .slo 5, .slo 6, .int .i64], .arr (.int .i64) [] true, .arr .str [] true, .arr .str [] true, .arr .str [] true]⟩
def gq94.sh2r : SK := ⟨[.v (.one (.bptr 0 0)), .v (.one (.int .i64))], [.box [.int .i64, .slo 1, .slo 2, .int .i64], .arr .str [] true, .arr .str [] true]⟩
def gq94.ko2 : Ex → List CastAt × List Nat
 | .nrm => ([], [1, 2, 4, 5, 6, 7, 8, 9, 11])
 | .ret => ([], [2, 3])
 | .ext i => ([], [])
def gq94.G2 (R : Type) (t : gq94.sh2.T) (K : Ex → Kp → Option R) : Option R := gq94.j2 (fun y0 y1 y2 y3 y4 y5 y6 y7 y8 y9 y10 y11 y12 y13 => K .nrm (SK.enc gq94.sh2n (((), (), (), (), y0, y1, (), y2, y3, ()), ((y4, y5, ()), (y6, (), (), y7, ()), (y8, (), (), y9, ()), y10, y11, y12, y13, ())))) (fun y0 y1 y2 y3 y4 => K .ret (SK.enc gq94.sh2r (((), y0, ()), ((y1, (), (), y2, ()), y3, y4, ())))) t.1.2.2.2.2.1 t.1.2.2.2.2.2.1 t.1.2.2.2.2.2.2.2.1 t.1.2.2.2.2.2.2.2.2.1 t.2.1.1 t.2.1.2.1 t.2.2.1.1 t.2.2.1.2.2.2.1 t.2.2.2.1.1 t.2.2.2.1.2.2.2.1 t.2.2.2.2.1 t.2.2.2.2.2.1 t.2.2.2.2.2.2.1 t.2.2.2.2.2.2.2.1
def gq94.S2 : Sum := ⟨([], [1, 2, 4, 5, 6, 7, 8, 9, 11]), sumF gq94.sh2 (gq94.G2), gq94.ko2⟩
theorem gq94.ok2 (hE : EOk Tryz.prog (gq94.E)) : SumOk Tryz.prog gq94.E (cL (cR (cR (cR (cR (cB (cL (cR (cB (cB (cR (cL (cR (cR (cR (bodyOf Tryz.f94)))))))))))))))) (gq94.S2) := by
 have hh : HintOk Tryz.prog gq94.E (cL (cR (cR (cR (cR (cB (cL (cR (cB (cB (cR (cL (cR (cR (cR (bodyOf Tryz.f94)))))))))))))))) (.a) := HintOk.n1 (Q := True) (by kernel_rfl) trivial
 exact sumS (kin := ([], [1, 2, 4, 5, 6, 7, 8, 9, 11])) (kout := gq94.ko2) (sh := gq94.sh2) (F := gq94.G2) (ops_ok (hE.gv _)) (by kernel_rfl) hh (fun R t K => by kernel_rfl)
def gq94.sh3 : SK := ⟨[.v (.one (.bptr 0 0)), .v (.one (.bptr 1 0)), .v (.one (.bptr 2 0)), .v (.one (.slo 3)), .v (.one (.int .i64)), .v (.one (.str)), .v (.one (.slo 4)), .v (.one (.int .i64)), .v (.one (.int .i64))], [.box [.int .i64, .slv [1] kFile], .box [.int .i64, .nil, .nil, .int .i64], .box [.int .i64, .slo 5, .slo 6, .int .i64], .arr (.int .i64) [] true, .arr .str [] true, .arr .str [] true, .arr .str [] true]⟩
def gq94.sh3n : SK := ⟨[.v (.one (.bptr 0 0)), .v (.one (.bptr 1 0)), .v (.one (.bptr 2 0)), .v (.one (.slo 3)), .v (.one (.int .i64)), .v (.one (.str)), .v (.one (.slo 4)), .v (.one (.int .i64))], [.box [.int .i64, .slv [1] kFile], .box [.int .i64, .nil, .nil, .int .i64], .box [.int .i64, .slo 5, .slo 6, .int .i64], .arr (.int .i64) [] true, .arr .str [] true, .arr .str [] true, .arr .str [] true]⟩
def gq94.sh3r : SK := ⟨[.v (.one (.bptr 0 0)), .v (.one (.int .i64))], [.box [.int .i64, .slo 1, .slo 2, .int .i64], .arr .str [] true, .arr .str [] true]⟩
def gq94.ko3 : Ex → List CastAt × List Nat
 | .nrm => ([], [1, 2, 4, 5, 6, 7, 8, 9])
 | .ret => ([], [2, 3])
 | .ext i => ([], [])
def gq94.G3 (R : Type) (t : gq94.sh3.T) (K : Ex → Kp → Option R) : Option R := gq94.j3 (fun y0 y1 y2 y3 y4 y5 y6 y7 y8 y9 y10 y11 y12 => K .nrm (SK.enc gq94.sh3n (((), (), (), (), y0, y1, (), y2, ()), ((y3, y4, ()), (y5, (), (), y6, ()), (y7, (), (), y8, ()), y9, y10, y11, y12, ())))) (fun y0 y1 y2 y3 y4 => K .ret (SK.enc gq94.sh3r (((), y0, ()), ((y1, (), (), y2, ()), y3, y4, ())))) t.1.2.2.2.2.1 t.1.2.2.2.2.2.1 t.1.2.2.2.2.2.2.2.1 t.1.2.2.2.2.2.2.2.2.1 t.2.1.1 t.2.1.2.1 t.2.2.1.1 t.2.2.1.2.2.2.1 t.2.2.2.1.1 t.2.2.2.1.2.2.2.1 t.2.2.2.2.1 t.2.2.2.2.2.1 t.2.2.2.2.2.2.1 t.2.2.2.2.2.2.2.1
def gq94.S3 : Sum := ⟨([], [1, 2, 4, 5, 6, 7, 8, 9, 13]), sumF gq94.sh3 (gq94.G3), gq94.ko3⟩
theorem gq94.ok3 (hE : EOk Tryz.prog (gq94.E)) : SumOk Tryz.prog gq94.E (cL (cR (cR (cR (cR (cR (cR (cR (cR (cR (cB (cL (cR (cB (cB (cR (cL (cR (cR (cR (bodyOf Tryz.f94))))))))))))))))))))) (gq94.S3) := by
 have hh : HintOk Tryz.prog gq94.E (cL (cR (cR (cR (cR (cR (cR (cR (cR (cR (cB (cL (cR (cB (cB (cR (cL (cR (cR (cR (bodyOf Tryz.f94))))))))))))))))))))) (.a) := HintOk.n1 (Q := True) (by kernel_rfl) trivial
 exact sumS (kin := ([], [1, 2, 4, 5, 6, 7, 8, 9, 13])) (kout := gq94.ko3) (sh := gq94.sh3) (F := gq94.G3) (ops_ok (hE.gv _)) (by kernel_rfl) hh (fun R t K => by kernel_rfl)
def gq94.sh4 : SK := ⟨[.v (.one (.bptr 0 0)), .v (.one (.bptr 1 0)), .v (.one (.bptr 2 0)), .v (.one (.slo 3)), .v (.one (.int .i64))], [.box [.int .i64, .slv [1] kFile], .box [.int .i64, .nil, .nil, .int .i64], .box [.int .i64, .slo 4, .slo 5, .int .i64], .arr (.int .i64) [] true, .arr .str [] true, .arr .str [] true]⟩
def gq94.sh4e0 : SK := ⟨[.v (.one (.bptr 0 0)), .v (.one (.bptr 1 0))], [.box [.int .i64, .nil, .nil, .int .i64], .box [.int .i64, .slo 2, .slo 3, .int .i64], .arr .str [] true, .arr .str [] true]⟩
def gq94.sh4r : SK := ⟨[.v (.one (.bptr 0 0)), .v (.one (.int .i64))], [.box [.int .i64, .slo 1, .slo 2, .int .i64], .arr .str [] true, .arr .str [] true]⟩
def gq94.ko4 : Ex → List CastAt × List Nat
 | .nrm => ([], [])
 | .ret => ([], [2, 3])
 | .ext i => cond (Nat.beq i 0) ([], [2, 4]) ([], [])
def gq94.G4 (n : Nat) (R : Type) (t : gq94.sh4.T) (K : Ex → Kp → Option R) : Option R := gq94.l4 (fun y0 y1 y2 y3 y4 y5 => K (.ext 0) (SK.enc gq94.sh4e0 (((), (), ()), ((y0, (), (), y1, ()), (y2, (), (), y3, ()), y4, y5, ())))) (fun y0 y1 y2 y3 y4 => K .ret (SK.enc gq94.sh4r (((), y0, ()), ((y1, (), (), y2, ()), y3, y4, ())))) n t.1.2.2.2.2.1 t.2.1.1 t.2.1.2.1 t.2.2.1.1 t.2.2.1.2.2.2.1 t.2.2.2.1.1 t.2.2.2.1.2.2.2.1 t.2.2.2.2.1 t.2.2.2.2.2.1 t.2.2.2.2.2.2.1
def gq94.S4 : Sum := ⟨([], [1, 2, 4, 5, 6]), sumF gq94.sh4 (gq94.G4 fuel), gq94.ko4⟩
theorem gq94.ok4 (hE : EOk Tryz.prog (gq94.E)) : SumOk Tryz.prog gq94.E (cB (cR (cL (cR (cR (cR (bodyOf Tryz.f94))))))) (gq94.S4) := by
 have hh : HintOk Tryz.prog gq94.E (cB (cB (cR (cL (cR (cR (cR (bodyOf Tryz.f94)))))))) (.n (.a) (.n (.b (.n (.a) (.n (.a) (.n (.a) (.n (.s (gq94.S1)) (.n (.s (gq94.S2)) (.n (.a) (.n (.a) (.n (.a) (.n (.a) (.n (.s (gq94.S3)) (.a)))))))))))) (.a))) := HintOk.n1 (Q := (True) ∧ (((True) ∧ ((True) ∧ ((True) ∧ ((SumOk Tryz.prog gq94.E (cL (cR (cR (cR (cB (cL (cR (cB (cB (cR (cL (cR (cR (cR (bodyOf Tryz.f94))))))))))))))) (gq94.S1)) ∧ ((SumOk Tryz.prog gq94.E (cL (cR (cR (cR (cR (cB (cL (cR (cB (cB (cR (cL (cR (cR (cR (bodyOf Tryz.f94)))))))))))))))) (gq94.S2)) ∧ ((True) ∧ ((True) ∧ ((True) ∧ ((True) ∧ ((SumOk Tryz.prog gq94.E (cL (cR (cR (cR (cR (cR (cR (cR (cR (cR (cB (cL (cR (cB (cB (cR (cL (cR (cR (cR (bodyOf Tryz.f94))))))))))))))))))))) (gq94.S3)) ∧ (True))))))))))) ∧ (True))) (by kernel_rfl) ⟨trivial, ⟨⟨trivial, ⟨trivial, ⟨trivial, ⟨(gq94.ok1 hE), ⟨(gq94.ok2 hE), ⟨trivial, ⟨trivial, ⟨trivial, ⟨trivial, ⟨(gq94.ok3 hE), trivial⟩⟩⟩⟩⟩⟩⟩⟩⟩⟩, trivial⟩⟩
 have h := loopS (kin := ([], [1, 2, 4, 5, 6])) (kout := gq94.ko4) (sh := gq94.sh4) (F := gq94.G4) (ops_ok (hE.gv _)) (by kernel_rfl) hh (fun _ _ _ => rfl) (fun n R t K => by kernel_rfl) fuel
 exact HintOk.n1 (c := (cB (cR (cL (cR (cR (cR (bodyOf Tryz.f94)))))))) (h := .s (gq94.S4)) (P := Tryz.prog) (E := gq94.E) (by kernel_rfl) h
theorem gq94.hok (hE : EOk Tryz.prog (gq94.E)) : HintOk Tryz.prog gq94.E (bodyOf Tryz.f94) (.n (.a) (.n (.a) (.n (.a) (.n (.n (.a) (.b (.s (gq94.S4)))) (.a))))) := HintOk.n1 (Q := (True) ∧ ((True) ∧ ((True) ∧ (((True) ∧ (SumOk Tryz.prog gq94.E (cB (cR (cL (cR (cR (cR (bodyOf Tryz.f94))))))) (gq94.S4))) ∧ (True))))) (by kernel_rfl) ⟨trivial, ⟨trivial, ⟨trivial, ⟨⟨trivial, (gq94.ok4 hE)⟩, trivial⟩⟩⟩⟩
theorem gq94.hE : EOk Tryz.prog (gq94.E) := EOk.of ttOk (⟨gq95.fok, ⟨gq96.fok, ⟨gq97.fok, ⟨gq98.fok, ⟨gq99.fok, trivial⟩⟩⟩⟩⟩)
theorem gq94.fok : FOk Tryz.prog 94 gq94.fi :=
 fokS (E := gq94.E) (wy := ⟨[[none, some (.str, true), some (.str, true), none], [none]], [[]], []⟩) (h := (fun gs => .n (.a) (.n (.a) (.n (.a) (.n (.n (.a) (.b (.s (gq94.S4)))) (.a)))))) (G := fun t g => gq94.F (fun y0 y1 y2 y3 y4 => g (y0, y1, y2, y3, y4)) t.1.1 t.1.2.1) (by kernel_rfl) gq94.hE Tryz.func94 (by kernel_rfl) rfl (Nat.le_refl _) (fun t => HintOk.n1 (by kernel_rfl) (gq94.hok gq94.hE)) (fun t g => gq94.F_nat g (fun y0 y1 y2 y3 y4 => some (y0, y1, y2, y3, y4)) _ _) (fun t => by kernel_rfl)
def gq60.F {R : Type} (kk : Int → List ByteArray → List ByteArray → Int → Int → Option R) (d_Room : Int) (d_Files : List (El kFile)) (data : ByteArray) : Option R :=
 cond (decide ((ByteArray.size data : Int) > (65536 : Int))) (kk (0 : Int) [] [] (0 : Int) (2 : Int)) (
  (gq73 d_Room d_Files).bind fun r =>
  cond (!r) (kk (0 : Int) [] [] (0 : Int) (1 : Int)) (
   (gq59 (ByteArray.size data : Int) (1 : Int) (110 : Int)).bind fun r1 =>
   cond (!r1) (kk (0 : Int) [] [] (0 : Int) (4 : Int)) (
    (gq94 d_Room d_Files).bind fun r2 =>
    (gq95 d_Room d_Files).bind fun r3 =>
    cond (r2.2.2.2.2 != (0 : Int)) (kk r2.1 r2.2.1 r2.2.2.1 r2.2.2.2.1 r2.2.2.2.2) (
     cond (decide (r2.2.2.2.1 > (0 : Int))) (kk r2.1 r2.2.1 r2.2.2.1 r2.2.2.2.1 (16 : Int)) (
      cond (decide ((List.length r2.2.1 : Int) ≥ (60 : Int))) (kk r2.1 r2.2.1 r2.2.2.1 r2.2.2.2.1 (6 : Int)) (
       cond (decide ((List.length r3 : Int) > (0 : Int))) (
        grd (gIx (IntKind.wrap .i64 ((List.length r3 : Int) - (1 : Int))) (List.length r3)) <|
        cond ((rdE (.int .i64 : Kd) r3 (Int.toNat (IntKind.wrap .i64 ((List.length r3 : Int) - (1 : Int))))) == (99 : Int)) (kk r2.1 r2.2.1 r2.2.2.1 r2.2.2.2.1 (6 : Int)) (kk r2.1 r2.2.1 r2.2.2.1 r2.2.2.2.1 (0 : Int))) (kk r2.1 r2.2.1 r2.2.2.1 r2.2.2.2.1 (0 : Int))))))))
theorem gq60.F_nat {R S : Type} (g : R → Option S) (kk : Int → List ByteArray → List ByteArray → Int → Int → Option R) (d_Room d_Files data) : gq60.F (fun y0 y1 y2 y3 y4 => (kk y0 y1 y2 y3 y4).bind g) d_Room d_Files data = (gq60.F kk d_Room d_Files data).bind g := by
 simp only [gq60.F, grd_bind, cnd_bind, bnd_bind, non_bind]
def gq60 (d_Room : Int) (d_Files : List (El kFile)) (data : ByteArray) : Option (Int × List ByteArray × List ByteArray × Int × Int) := gq60.F (fun y0 y1 y2 y3 y4 => some (y0, y1, y2, y3, y4)) d_Room d_Files data
def gq60.out : (Int × List ByteArray × List ByteArray × Int × Int) → CRes := fun a => ⟨encL SV.enc [.agg [.int .i64, .own [] .str true, .own [] .str true, .int .i64], .one (.int .i64)] ((a.1, a.2.1, a.2.2.1, a.2.2.2.1, ()), a.2.2.2.2, ()), [encL SC.enc [] (), encL SC.enc [] ()]⟩
def gq60.ps : List PS := [.val [none, some (kFile, false)], .val [none]]
def gq60.sA : List SA := [.v (.agg [.int .i64, .slv [] kFile]), .v (.one (.str))]
def gq60.fi : FI := FIs gq60.sA (Int × List ByteArray × List ByteArray × Int × Int) (fun t => gq60 t.1.1 t.1.2.1 t.2.1) gq60.out gq60.ps
def gq60.E : Env := ⟨tt, lkF [(59, gq59.fi), (73, gq73.fi), (94, gq94.fi), (95, gq95.fi)], 60, 0, [], []⟩
theorem gq60.hok (hE : EOk Tryz.prog (gq60.E)) : HintOk Tryz.prog gq60.E (bodyOf Tryz.f60) (.a) := HintOk.n1 (Q := True) (by kernel_rfl) trivial
theorem gq60.hE : EOk Tryz.prog (gq60.E) := EOk.of ttOk (⟨gq59.fok, ⟨gq73.fok, ⟨gq94.fok, ⟨gq95.fok, trivial⟩⟩⟩⟩)
theorem gq60.fok : FOk Tryz.prog 60 gq60.fi :=
 fokS (E := gq60.E) (wy := ⟨[[none, some (.str, true), some (.str, true), none], [none]], [[], []], []⟩) (h := (fun gs => .a)) (G := fun t g => gq60.F (fun y0 y1 y2 y3 y4 => g (y0, y1, y2, y3, y4)) t.1.1 t.1.2.1 t.2.1) (by kernel_rfl) gq60.hE Tryz.func60 (by kernel_rfl) rfl (Nat.le_refl _) (fun t => HintOk.n1 (by kernel_rfl) (gq60.hok gq60.hE)) (fun t g => gq60.F_nat g (fun y0 y1 y2 y3 y4 => some (y0, y1, y2, y3, y4)) _ _ _) (fun t => by kernel_rfl)
end
end Go.Proofs.YtaanadbpnmcbcaaGreatDoorA
