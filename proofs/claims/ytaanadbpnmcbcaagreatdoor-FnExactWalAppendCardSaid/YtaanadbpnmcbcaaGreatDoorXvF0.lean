/-
  Functions of the program, and that the small machine's runs are these. No condition.
  Printed by wip/amp/main.py (a session's own program) out of Lean's print of the program; Lean's kernel checks it.
-/
import Derived.Test.YtaanadbpnmcbcaaGreatDoorXvT
namespace Go.Proofs.YtaanadbpnmcbcaaGreatDoorA
open Go
noncomputable section
set_option linter.unusedVariables false
set_option linter.unusedSimpArgs false
set_option maxRecDepth 100000

/-! loop.example_g00220_laws.szFile -/
def l_szFile.F {R : Type} (kk : Int → Option R) (a_Name : ByteArray) (a_Data : ByteArray) (a_Sure : Int) (left : Int) : Option R :=
  cond (decide ((IntKind.wrap .i64 (left - (ByteArray.size a_Name : Int))) < (0 : Int))) (kk (-1 : Int)) (
    cond (decide ((IntKind.wrap .i64 ((IntKind.wrap .i64 (left - (ByteArray.size a_Name : Int))) - (ByteArray.size a_Data : Int))) < (0 : Int))) (kk (-1 : Int)) (
      kk (IntKind.wrap .i64 ((IntKind.wrap .i64 (left - (ByteArray.size a_Name : Int))) - (ByteArray.size a_Data : Int)))))
theorem l_szFile.F_nat {R S : Type} (g : R → Option S) (kk : Int → Option R) (a_Name : ByteArray) (a_Data : ByteArray) (a_Sure : Int) (left : Int) : l_szFile.F (fun y0 => (kk y0).bind g) a_Name a_Data a_Sure left = (l_szFile.F kk a_Name a_Data a_Sure left).bind g := by
  simp only [l_szFile.F, grd_bind, cnd_bind, bnd_bind, non_bind]
def l_szFile (a_Name : ByteArray) (a_Data : ByteArray) (a_Sure : Int) (left : Int) : Option Int := l_szFile.F (fun y0 => some y0) a_Name a_Data a_Sure left
theorem l_szFile_nat {S : Type} (g : Int → Option S) (a_Name : ByteArray) (a_Data : ByteArray) (a_Sure : Int) (left : Int) : l_szFile.F (fun y0 => g y0) a_Name a_Data a_Sure left = (l_szFile a_Name a_Data a_Sure left).bind g := l_szFile.F_nat g (fun y0 => some y0) a_Name a_Data a_Sure left
def l_szFile.out : Int → CRes := fun a => ⟨encL SV.enc [.one (.int .i64)] (a, ()), [encL SC.enc [] (), encL SC.enc [] ()]⟩
def l_szFile.ps : List PS := [.val [none, none, none], .val [none]]
def l_szFile.sA : List SA := [.v (.agg [.str, .str, .int .i64]), .v (.one (.int .i64))]
def l_szFile.fi : FI := FIs l_szFile.sA (Int) (fun t => l_szFile t.1.1 t.1.2.1 t.1.2.2.1 t.2.1) l_szFile.out l_szFile.ps
def l_szFile.E : Env := ⟨tt, lkF [], 20, 0, [], []⟩
theorem l_szFile.hok (hE : EOk Tryz.prog (l_szFile.E)) : HintOk Tryz.prog l_szFile.E (bodyOf Tryz.f93) (.a) := HintOk.n1 (Q := True) (by kernel_rfl) trivial
theorem l_szFile.hE : EOk Tryz.prog (l_szFile.E) := EOk.of ttOk (trivial)
theorem l_szFile.fok : FOk Tryz.prog 93 l_szFile.fi :=
  fokS (E := l_szFile.E) (wy := ⟨[[none]], [[], []], []⟩) (h := (fun gs => .a)) (G := fun t g => l_szFile.F (fun y0 => g y0) t.1.1 t.1.2.1 t.1.2.2.1 t.2.1) (by kernel_rfl) l_szFile.hE Tryz.func93 (by kernel_rfl) rfl (Nat.le_refl _) (fun t => HintOk.n1 (by kernel_rfl) (l_szFile.hok l_szFile.hE)) (fun t g => l_szFile_nat g t.1.1 t.1.2.1 t.1.2.2.1 t.2.1) (fun t => by kernel_rfl)
/-! loop.example_g00220_laws.szFileS -/
def l_szFileS.l1 {R : Type} (kke0 : Int → Option R) (kkr : Int → Option R) : Nat → List (El kFile) → Int → Int → Option R
  | 0, _, _, _ => none
  | n + 1, a, left, i =>
    cond (decide (i < (List.length a : Int))) (
      grd (gIx i (List.length a)) <|
      (l_szFile ((rdE kFile a (Int.toNat i)).1) ((rdE kFile a (Int.toNat i)).2.1) ((rdE kFile a (Int.toNat i)).2.2) left).bind fun r =>
      cond (decide (r < (0 : Int))) (kkr (-1 : Int)) (l_szFileS.l1 kke0 kkr n a r (IntKind.wrap .i64 (i + (1 : Int))))) (kke0 left)
theorem l_szFileS.l1_nat {R S : Type} (g : R → Option S) (kke0 : Int → Option R) (kkr : Int → Option R) : ∀ (n : Nat) (a : List (El kFile)) (left : Int) (i : Int), l_szFileS.l1 (fun y0 => (kke0 y0).bind g) (fun y0 => (kkr y0).bind g) n a left i = (l_szFileS.l1 kke0 kkr n a left i).bind g := by
  intro n
  induction n with
  | zero => intros; rfl
  | succ n ih => intros; simp only [l_szFileS.l1, grd_bind, cnd_bind, bnd_bind, non_bind, ih]
def l_szFileS.F {R : Type} (kk : Int → Option R) (a : List (El kFile)) (left : Int) : Option R :=
  cond (decide ((IntKind.wrap .i64 (left - (List.length a : Int))) < (0 : Int))) (kk (-1 : Int)) (
    l_szFileS.l1 (fun left1 => kk left1) (fun i => kk i) fuel a (IntKind.wrap .i64 (left - (List.length a : Int))) (0 : Int))
theorem l_szFileS.F_nat {R S : Type} (g : R → Option S) (kk : Int → Option R) (a : List (El kFile)) (left : Int) : l_szFileS.F (fun y0 => (kk y0).bind g) a left = (l_szFileS.F kk a left).bind g := by
  simp only [l_szFileS.F, grd_bind, cnd_bind, bnd_bind, non_bind, ← l_szFileS.l1_nat]
def l_szFileS (a : List (El kFile)) (left : Int) : Option Int := l_szFileS.F (fun y0 => some y0) a left
theorem l_szFileS_nat {S : Type} (g : Int → Option S) (a : List (El kFile)) (left : Int) : l_szFileS.F (fun y0 => g y0) a left = (l_szFileS a left).bind g := l_szFileS.F_nat g (fun y0 => some y0) a left
def l_szFileS.out : Int → CRes := fun a => ⟨encL SV.enc [.one (.int .i64)] (a, ()), [encL SC.enc [] (), encL SC.enc [] ()]⟩
def l_szFileS.ps : List PS := [.val [some (kFile, false)], .val [none]]
def l_szFileS.sA : List SA := [.v (.one (.slv [] kFile)), .v (.one (.int .i64))]
def l_szFileS.fi : FI := FIs l_szFileS.sA (Int) (fun t => l_szFileS t.1 t.2.1) l_szFileS.out l_szFileS.ps
def l_szFileS.E : Env := ⟨tt, lkF [(93, l_szFile.fi)], 27, 0, [], []⟩
def l_szFileS.sh1 : SK := ⟨[.v (.one (.slv [1] kFile)), .v (.one (.int .i64)), .v (.one (.int .i64))], []⟩
def l_szFileS.sh1e0 : SK := ⟨[.v (.one (.int .i64))], []⟩
def l_szFileS.sh1r : SK := ⟨[.v (.one (.int .i64))], []⟩
def l_szFileS.ko1 : Ex → List CastAt × List Nat
  | .nrm => ([], [])
  | .ret => ([], [4])
  | .ext i => cond (Nat.beq i 0) ([], [1]) ([], [])
def l_szFileS.G1 (n : Nat) (R : Type) (t : l_szFileS.sh1.T) (K : Ex → Kp → Option R) : Option R := l_szFileS.l1 (fun y0 => K (.ext 0) (SK.enc l_szFileS.sh1e0 ((y0, ()), ()))) (fun y0 => K .ret (SK.enc l_szFileS.sh1r ((y0, ()), ()))) n t.1.1 t.1.2.1 t.1.2.2.1
def l_szFileS.S1 : Sum := ⟨([], [0, 1, 5]), sumF l_szFileS.sh1 (l_szFileS.G1 fuel), l_szFileS.ko1⟩
theorem l_szFileS.ok1 (hE : EOk Tryz.prog (l_szFileS.E)) : SumOk Tryz.prog l_szFileS.E (cB (cR (cL (cR (cR (cR (bodyOf Tryz.f48))))))) (l_szFileS.S1) := by
  have hh : HintOk Tryz.prog l_szFileS.E (cB (cB (cR (cL (cR (cR (cR (bodyOf Tryz.f48)))))))) (.a) := HintOk.n1 (Q := True) (by kernel_rfl) trivial
  have h := loopS (kin := ([], [0, 1, 5])) (kout := l_szFileS.ko1) (sh := l_szFileS.sh1) (F := l_szFileS.G1) (ops_ok (hE.gv _)) (by kernel_rfl) hh (fun _ _ _ => rfl) (fun n R t K => by kernel_rfl) fuel
  exact HintOk.n1 (c := (cB (cR (cL (cR (cR (cR (bodyOf Tryz.f48)))))))) (h := .s (l_szFileS.S1)) (P := Tryz.prog) (E := l_szFileS.E) (by kernel_rfl) h
theorem l_szFileS.hok (hE : EOk Tryz.prog (l_szFileS.E)) : HintOk Tryz.prog l_szFileS.E (bodyOf Tryz.f48) (.n (.a) (.n (.a) (.n (.a) (.n (.n (.a) (.b (.s (l_szFileS.S1)))) (.a))))) := HintOk.n1 (Q := (True) ∧ ((True) ∧ ((True) ∧ (((True) ∧ (SumOk Tryz.prog l_szFileS.E (cB (cR (cL (cR (cR (cR (bodyOf Tryz.f48))))))) (l_szFileS.S1))) ∧ (True))))) (by kernel_rfl) ⟨trivial, ⟨trivial, ⟨trivial, ⟨⟨trivial, (l_szFileS.ok1 hE)⟩, trivial⟩⟩⟩⟩
theorem l_szFileS.hE : EOk Tryz.prog (l_szFileS.E) := EOk.of ttOk (⟨l_szFile.fok, trivial⟩)
theorem l_szFileS.fok : FOk Tryz.prog 48 l_szFileS.fi :=
  fokS (E := l_szFileS.E) (wy := ⟨[[none]], [[], []], []⟩) (h := (fun gs => .n (.a) (.n (.a) (.n (.a) (.n (.n (.a) (.b (.s (l_szFileS.S1)))) (.a)))))) (G := fun t g => l_szFileS.F (fun y0 => g y0) t.1 t.2.1) (by kernel_rfl) l_szFileS.hE Tryz.func48 (by kernel_rfl) rfl (Nat.le_refl _) (fun t => HintOk.n1 (by kernel_rfl) (l_szFileS.hok l_szFileS.hE)) (fun t g => l_szFileS_nat g t.1 t.2.1) (fun t => by kernel_rfl)
/-! loop.example_g00220_laws.szDisk -/
def l_szDisk.F {R : Type} (kk : Int → Option R) (a_Room : Int) (a_Files : List (El kFile)) (left : Int) : Option R :=
  (l_szFileS a_Files left).bind fun r =>
  cond (decide (r < (0 : Int))) (kk (-1 : Int)) (kk r)
theorem l_szDisk.F_nat {R S : Type} (g : R → Option S) (kk : Int → Option R) (a_Room : Int) (a_Files : List (El kFile)) (left : Int) : l_szDisk.F (fun y0 => (kk y0).bind g) a_Room a_Files left = (l_szDisk.F kk a_Room a_Files left).bind g := by
  simp only [l_szDisk.F, grd_bind, cnd_bind, bnd_bind, non_bind]
def l_szDisk (a_Room : Int) (a_Files : List (El kFile)) (left : Int) : Option Int := l_szDisk.F (fun y0 => some y0) a_Room a_Files left
theorem l_szDisk_nat {S : Type} (g : Int → Option S) (a_Room : Int) (a_Files : List (El kFile)) (left : Int) : l_szDisk.F (fun y0 => g y0) a_Room a_Files left = (l_szDisk a_Room a_Files left).bind g := l_szDisk.F_nat g (fun y0 => some y0) a_Room a_Files left
def l_szDisk.out : Int → CRes := fun a => ⟨encL SV.enc [.one (.int .i64)] (a, ()), [encL SC.enc [] (), encL SC.enc [] ()]⟩
def l_szDisk.ps : List PS := [.val [none, some (kFile, false)], .val [none]]
def l_szDisk.sA : List SA := [.v (.agg [.int .i64, .slv [] kFile]), .v (.one (.int .i64))]
def l_szDisk.fi : FI := FIs l_szDisk.sA (Int) (fun t => l_szDisk t.1.1 t.1.2.1 t.2.1) l_szDisk.out l_szDisk.ps
def l_szDisk.E : Env := ⟨tt, lkF [(48, l_szFileS.fi)], 12, 0, [], []⟩
theorem l_szDisk.hok (hE : EOk Tryz.prog (l_szDisk.E)) : HintOk Tryz.prog l_szDisk.E (bodyOf Tryz.f10) (.a) := HintOk.n1 (Q := True) (by kernel_rfl) trivial
theorem l_szDisk.hE : EOk Tryz.prog (l_szDisk.E) := EOk.of ttOk (⟨l_szFileS.fok, trivial⟩)
theorem l_szDisk.fok : FOk Tryz.prog 10 l_szDisk.fi :=
  fokS (E := l_szDisk.E) (wy := ⟨[[none]], [[], []], []⟩) (h := (fun gs => .a)) (G := fun t g => l_szDisk.F (fun y0 => g y0) t.1.1 t.1.2.1 t.2.1) (by kernel_rfl) l_szDisk.hE Tryz.func10 (by kernel_rfl) rfl (Nat.le_refl _) (fun t => HintOk.n1 (by kernel_rfl) (l_szDisk.hok l_szDisk.hE)) (fun t g => l_szDisk_nat g t.1.1 t.1.2.1 t.2.1) (fun t => by kernel_rfl)
/-! loop.example_g00220_laws.toFile -/
def l_toFile.F {R : Type} (kk : ByteArray → ByteArray → Int → Option R) (a_Name : ByteArray) (a_Data : ByteArray) (a_Sure : Int) : Option R :=
  kk a_Name a_Data a_Sure
theorem l_toFile.F_nat {R S : Type} (g : R → Option S) (kk : ByteArray → ByteArray → Int → Option R) (a_Name : ByteArray) (a_Data : ByteArray) (a_Sure : Int) : l_toFile.F (fun y0 y1 y2 => (kk y0 y1 y2).bind g) a_Name a_Data a_Sure = (l_toFile.F kk a_Name a_Data a_Sure).bind g := by
  simp only [l_toFile.F, grd_bind, cnd_bind, bnd_bind, non_bind]
def l_toFile (a_Name : ByteArray) (a_Data : ByteArray) (a_Sure : Int) : Option (ByteArray × ByteArray × Int) := l_toFile.F (fun y0 y1 y2 => some (y0, y1, y2)) a_Name a_Data a_Sure
theorem l_toFile_nat {S : Type} (g : (ByteArray × ByteArray × Int) → Option S) (a_Name : ByteArray) (a_Data : ByteArray) (a_Sure : Int) : l_toFile.F (fun y0 y1 y2 => g (y0, y1, y2)) a_Name a_Data a_Sure = (l_toFile a_Name a_Data a_Sure).bind g := l_toFile.F_nat g (fun y0 y1 y2 => some (y0, y1, y2)) a_Name a_Data a_Sure
def l_toFile.out : (ByteArray × ByteArray × Int) → CRes := fun a => ⟨encL SV.enc [.agg [.str, .str, .int .i64]] ((a.1, a.2.1, a.2.2, ()), ()), [encL SC.enc [] ()]⟩
def l_toFile.ps : List PS := [.val [none, none, none]]
def l_toFile.sA : List SA := [.v (.agg [.str, .str, .int .i64])]
def l_toFile.fi : FI := FIs l_toFile.sA (ByteArray × ByteArray × Int) (fun t => l_toFile t.1.1 t.1.2.1 t.1.2.2.1) l_toFile.out l_toFile.ps
def l_toFile.E : Env := ⟨tt, lkF [], 14, 0, [], []⟩
theorem l_toFile.hok (hE : EOk Tryz.prog (l_toFile.E)) : HintOk Tryz.prog l_toFile.E (bodyOf Tryz.f100) (.a) := HintOk.n1 (Q := True) (by kernel_rfl) trivial
theorem l_toFile.hE : EOk Tryz.prog (l_toFile.E) := EOk.of ttOk (trivial)
theorem l_toFile.fok : FOk Tryz.prog 100 l_toFile.fi :=
  fokS (E := l_toFile.E) (wy := ⟨[[none, none, none]], [[]], []⟩) (h := (fun gs => .a)) (G := fun t g => l_toFile.F (fun y0 y1 y2 => g (y0, y1, y2)) t.1.1 t.1.2.1 t.1.2.2.1) (by kernel_rfl) l_toFile.hE Tryz.func100 (by kernel_rfl) rfl (Nat.le_refl _) (fun t => HintOk.n1 (by kernel_rfl) (l_toFile.hok l_toFile.hE)) (fun t g => l_toFile_nat g t.1.1 t.1.2.1 t.1.2.2.1) (fun t => by kernel_rfl)
/-! loop.example_g00220_laws.toFileS -/
def l_toFileS.l1 {R : Type} (kke0 : List (El kFile) → Option R) : Nat → List (El kFile) → Int → List (El kFile) → Option R
  | 0, _, _, _ => none
  | n + 1, a, i, out =>
    cond (decide (i < (List.length a : Int))) (
      grd (gIx i (List.length a)) <|
      (l_toFile ((rdE kFile a (Int.toNat i)).1) ((rdE kFile a (Int.toNat i)).2.1) ((rdE kFile a (Int.toNat i)).2.2)).bind fun r =>
      grd (gIx i (List.length out)) <|
      l_toFileS.l1 kke0 n a (IntKind.wrap .i64 (i + (1 : Int))) (setE kFile out (Int.toNat i) r)) (kke0 out)
theorem l_toFileS.l1_nat {R S : Type} (g : R → Option S) (kke0 : List (El kFile) → Option R) : ∀ (n : Nat) (a : List (El kFile)) (i : Int) (out : List (El kFile)), l_toFileS.l1 (fun y0 => (kke0 y0).bind g) n a i out = (l_toFileS.l1 kke0 n a i out).bind g := by
  intro n
  induction n with
  | zero => intros; rfl
  | succ n ih => intros; simp only [l_toFileS.l1, grd_bind, cnd_bind, bnd_bind, non_bind, ih]
def l_toFileS.F {R : Type} (kk : List (El kFile) → Option R) (a : List (El kFile)) : Option R :=
  grd (gMk (List.length a : Int) (List.length a : Int) 40) <|
  l_toFileS.l1 (fun out => kk out) fuel a (0 : Int) (List.replicate (Int.toNat (List.length a : Int)) (ByteArray.empty, (ByteArray.empty, (0 : Int))))
theorem l_toFileS.F_nat {R S : Type} (g : R → Option S) (kk : List (El kFile) → Option R) (a : List (El kFile)) : l_toFileS.F (fun y0 => (kk y0).bind g) a = (l_toFileS.F kk a).bind g := by
  simp only [l_toFileS.F, grd_bind, cnd_bind, bnd_bind, non_bind, ← l_toFileS.l1_nat]
def l_toFileS (a : List (El kFile)) : Option (List (El kFile)) := l_toFileS.F (fun y0 => some y0) a
theorem l_toFileS_nat {S : Type} (g : (List (El kFile)) → Option S) (a : List (El kFile)) : l_toFileS.F (fun y0 => g y0) a = (l_toFileS a).bind g := l_toFileS.F_nat g (fun y0 => some y0) a
def l_toFileS.out : (List (El kFile)) → CRes := fun a => ⟨encL SV.enc [.one (.own [] kFile true)] (a, ()), [encL SC.enc [] ()]⟩
def l_toFileS.ps : List PS := [.val [some (kFile, false)]]
def l_toFileS.sA : List SA := [.v (.one (.slv [] kFile))]
def l_toFileS.fi : FI := FIs l_toFileS.sA (List (El kFile)) (fun t => l_toFileS t.1) l_toFileS.out l_toFileS.ps
def l_toFileS.E : Env := ⟨tt, lkF [(100, l_toFile.fi)], 23, 0, [], []⟩
def l_toFileS.sh1 : SK := ⟨[.v (.one (.slv [1] kFile)), .v (.one (.slo 0)), .v (.one (.int .i64))], [.arr kFile [] true]⟩
def l_toFileS.sh1e0 : SK := ⟨[.v (.one (.slo 0))], [.arr kFile [] true]⟩
def l_toFileS.ko1 : Ex → List CastAt × List Nat
  | .nrm => ([], [])
  | .ret => ([], [])
  | .ext i => cond (Nat.beq i 0) ([], [3]) ([], [])
def l_toFileS.G1 (n : Nat) (R : Type) (t : l_toFileS.sh1.T) (K : Ex → Kp → Option R) : Option R := l_toFileS.l1 (fun y0 => K (.ext 0) (SK.enc l_toFileS.sh1e0 (((), ()), (y0, ())))) n t.1.1 t.1.2.2.1 t.2.1
def l_toFileS.S1 : Sum := ⟨([], [0, 3, 4]), sumF l_toFileS.sh1 (l_toFileS.G1 fuel), l_toFileS.ko1⟩
theorem l_toFileS.ok1 (hE : EOk Tryz.prog (l_toFileS.E)) : SumOk Tryz.prog l_toFileS.E (cB (cR (cL (cR (cR (bodyOf Tryz.f52)))))) (l_toFileS.S1) := by
  have hh : HintOk Tryz.prog l_toFileS.E (cB (cB (cR (cL (cR (cR (bodyOf Tryz.f52))))))) (.a) := HintOk.n1 (Q := True) (by kernel_rfl) trivial
  have h := loopS (kin := ([], [0, 3, 4])) (kout := l_toFileS.ko1) (sh := l_toFileS.sh1) (F := l_toFileS.G1) (ops_ok (hE.gv _)) (by kernel_rfl) hh (fun _ _ _ => rfl) (fun n R t K => by kernel_rfl) fuel
  exact HintOk.n1 (c := (cB (cR (cL (cR (cR (bodyOf Tryz.f52))))))) (h := .s (l_toFileS.S1)) (P := Tryz.prog) (E := l_toFileS.E) (by kernel_rfl) h
theorem l_toFileS.hok (hE : EOk Tryz.prog (l_toFileS.E)) : HintOk Tryz.prog l_toFileS.E (bodyOf Tryz.f52) (.n (.a) (.n (.a) (.n (.n (.a) (.b (.s (l_toFileS.S1)))) (.a)))) := HintOk.n1 (Q := (True) ∧ ((True) ∧ (((True) ∧ (SumOk Tryz.prog l_toFileS.E (cB (cR (cL (cR (cR (bodyOf Tryz.f52)))))) (l_toFileS.S1))) ∧ (True)))) (by kernel_rfl) ⟨trivial, ⟨trivial, ⟨⟨trivial, (l_toFileS.ok1 hE)⟩, trivial⟩⟩⟩
theorem l_toFileS.hE : EOk Tryz.prog (l_toFileS.E) := EOk.of ttOk (⟨l_toFile.fok, trivial⟩)
theorem l_toFileS.fok : FOk Tryz.prog 52 l_toFileS.fi :=
  fokS (E := l_toFileS.E) (wy := ⟨[[some (kFile, true)]], [[]], []⟩) (h := (fun gs => .n (.a) (.n (.a) (.n (.n (.a) (.b (.s (l_toFileS.S1)))) (.a))))) (G := fun t g => l_toFileS.F (fun y0 => g y0) t.1) (by kernel_rfl) l_toFileS.hE Tryz.func52 (by kernel_rfl) rfl (Nat.le_refl _) (fun t => HintOk.n1 (by kernel_rfl) (l_toFileS.hok l_toFileS.hE)) (fun t g => l_toFileS_nat g t.1) (fun t => by kernel_rfl)
/-! loop.example_g00220_laws.toDisk -/
def l_toDisk.F {R : Type} (kk : Int → List (El kFile) → Option R) (a_Room : Int) (a_Files : List (El kFile)) : Option R :=
  (l_toFileS a_Files).bind fun r =>
  kk a_Room r
theorem l_toDisk.F_nat {R S : Type} (g : R → Option S) (kk : Int → List (El kFile) → Option R) (a_Room : Int) (a_Files : List (El kFile)) : l_toDisk.F (fun y0 y1 => (kk y0 y1).bind g) a_Room a_Files = (l_toDisk.F kk a_Room a_Files).bind g := by
  simp only [l_toDisk.F, grd_bind, cnd_bind, bnd_bind, non_bind]
def l_toDisk (a_Room : Int) (a_Files : List (El kFile)) : Option (Int × List (El kFile)) := l_toDisk.F (fun y0 y1 => some (y0, y1)) a_Room a_Files
theorem l_toDisk_nat {S : Type} (g : (Int × List (El kFile)) → Option S) (a_Room : Int) (a_Files : List (El kFile)) : l_toDisk.F (fun y0 y1 => g (y0, y1)) a_Room a_Files = (l_toDisk a_Room a_Files).bind g := l_toDisk.F_nat g (fun y0 y1 => some (y0, y1)) a_Room a_Files
def l_toDisk.out : (Int × List (El kFile)) → CRes := fun a => ⟨encL SV.enc [.agg [.int .i64, .own [] kFile true]] ((a.1, a.2, ()), ()), [encL SC.enc [] ()]⟩
def l_toDisk.ps : List PS := [.val [none, some (kFile, false)]]
def l_toDisk.sA : List SA := [.v (.agg [.int .i64, .slv [] kFile])]
def l_toDisk.fi : FI := FIs l_toDisk.sA (Int × List (El kFile)) (fun t => l_toDisk t.1.1 t.1.2.1) l_toDisk.out l_toDisk.ps
def l_toDisk.E : Env := ⟨tt, lkF [(52, l_toFileS.fi)], 12, 0, [], []⟩
theorem l_toDisk.hok (hE : EOk Tryz.prog (l_toDisk.E)) : HintOk Tryz.prog l_toDisk.E (bodyOf Tryz.f12) (.a) := HintOk.n1 (Q := True) (by kernel_rfl) trivial
theorem l_toDisk.hE : EOk Tryz.prog (l_toDisk.E) := EOk.of ttOk (⟨l_toFileS.fok, trivial⟩)
theorem l_toDisk.fok : FOk Tryz.prog 12 l_toDisk.fi :=
  fokS (E := l_toDisk.E) (wy := ⟨[[none, some (kFile, true)]], [[]], []⟩) (h := (fun gs => .a)) (G := fun t g => l_toDisk.F (fun y0 y1 => g (y0, y1)) t.1.1 t.1.2.1) (by kernel_rfl) l_toDisk.hE Tryz.func12 (by kernel_rfl) rfl (Nat.le_refl _) (fun t => HintOk.n1 (by kernel_rfl) (l_toDisk.hok l_toDisk.hE)) (fun t g => l_toDisk_nat g t.1.1 t.1.2.1) (fun t => by kernel_rfl)
/-! loop.example_g00220_laws.eqFile -/
def l_eqFile.F {R : Type} (kk : Bool → Option R) (a_Name : ByteArray) (a_Data : ByteArray) (a_Sure : Int) (b_Name : ByteArray) (b_Data : ByteArray) (b_Sure : Int) : Option R :=
  cond (!(sEq a_Name b_Name)) (kk false) (cond (!(sEq a_Data b_Data)) (kk false) (cond (a_Sure != b_Sure) (kk false) (kk true)))
theorem l_eqFile.F_nat {R S : Type} (g : R → Option S) (kk : Bool → Option R) (a_Name : ByteArray) (a_Data : ByteArray) (a_Sure : Int) (b_Name : ByteArray) (b_Data : ByteArray) (b_Sure : Int) : l_eqFile.F (fun y0 => (kk y0).bind g) a_Name a_Data a_Sure b_Name b_Data b_Sure = (l_eqFile.F kk a_Name a_Data a_Sure b_Name b_Data b_Sure).bind g := by
  simp only [l_eqFile.F, grd_bind, cnd_bind, bnd_bind, non_bind]
def l_eqFile (a_Name : ByteArray) (a_Data : ByteArray) (a_Sure : Int) (b_Name : ByteArray) (b_Data : ByteArray) (b_Sure : Int) : Option Bool := l_eqFile.F (fun y0 => some y0) a_Name a_Data a_Sure b_Name b_Data b_Sure
theorem l_eqFile_nat {S : Type} (g : Bool → Option S) (a_Name : ByteArray) (a_Data : ByteArray) (a_Sure : Int) (b_Name : ByteArray) (b_Data : ByteArray) (b_Sure : Int) : l_eqFile.F (fun y0 => g y0) a_Name a_Data a_Sure b_Name b_Data b_Sure = (l_eqFile a_Name a_Data a_Sure b_Name b_Data b_Sure).bind g := l_eqFile.F_nat g (fun y0 => some y0) a_Name a_Data a_Sure b_Name b_Data b_Sure
def l_eqFile.out : Bool → CRes := fun a => ⟨encL SV.enc [.one (.bool)] (a, ()), [encL SC.enc [] (), encL SC.enc [] ()]⟩
def l_eqFile.ps : List PS := [.val [none, none, none], .val [none, none, none]]
def l_eqFile.sA : List SA := [.v (.agg [.str, .str, .int .i64]), .v (.agg [.str, .str, .int .i64])]
def l_eqFile.fi : FI := FIs l_eqFile.sA (Bool) (fun t => l_eqFile t.1.1 t.1.2.1 t.1.2.2.1 t.2.1.1 t.2.1.2.1 t.2.1.2.2.1) l_eqFile.out l_eqFile.ps
def l_eqFile.E : Env := ⟨tt, lkF [], 20, 0, [], []⟩
theorem l_eqFile.hok (hE : EOk Tryz.prog (l_eqFile.E)) : HintOk Tryz.prog l_eqFile.E (bodyOf Tryz.f108) (.a) := HintOk.n1 (Q := True) (by kernel_rfl) trivial
theorem l_eqFile.hE : EOk Tryz.prog (l_eqFile.E) := EOk.of ttOk (trivial)
theorem l_eqFile.fok : FOk Tryz.prog 108 l_eqFile.fi :=
  fokS (E := l_eqFile.E) (wy := ⟨[[none]], [[], []], []⟩) (h := (fun gs => .a)) (G := fun t g => l_eqFile.F (fun y0 => g y0) t.1.1 t.1.2.1 t.1.2.2.1 t.2.1.1 t.2.1.2.1 t.2.1.2.2.1) (by kernel_rfl) l_eqFile.hE Tryz.func108 (by kernel_rfl) rfl (Nat.le_refl _) (fun t => HintOk.n1 (by kernel_rfl) (l_eqFile.hok l_eqFile.hE)) (fun t g => l_eqFile_nat g t.1.1 t.1.2.1 t.1.2.2.1 t.2.1.1 t.2.1.2.1 t.2.1.2.2.1) (fun t => by kernel_rfl)
/-! loop.example_g00220_laws.eqFileS -/
def l_eqFileS.l1 {R : Type} (kke0 : Option R) (kkr : Bool → Option R) : Nat → List (El kFile) → List (El kFile) → Int → Option R
  | 0, _, _, _ => none
  | n + 1, a, b, i =>
    cond (decide (i < (List.length a : Int))) (
      grd (gIx i (List.length a)) <|
      grd (gIx i (List.length b)) <|
      (l_eqFile ((rdE kFile a (Int.toNat i)).1) ((rdE kFile a (Int.toNat i)).2.1) ((rdE kFile a (Int.toNat i)).2.2) ((rdE kFile b (Int.toNat i)).1) ((rdE kFile b (Int.toNat i)).2.1) ((rdE kFile b (Int.toNat i)).2.2)).bind fun r =>
      cond (!r) (kkr false) (l_eqFileS.l1 kke0 kkr n a b (IntKind.wrap .i64 (i + (1 : Int))))) (kke0)
theorem l_eqFileS.l1_nat {R S : Type} (g : R → Option S) (kke0 : Option R) (kkr : Bool → Option R) : ∀ (n : Nat) (a : List (El kFile)) (b : List (El kFile)) (i : Int), l_eqFileS.l1 (kke0.bind g) (fun y0 => (kkr y0).bind g) n a b i = (l_eqFileS.l1 kke0 kkr n a b i).bind g := by
  intro n
  induction n with
  | zero => intros; rfl
  | succ n ih => intros; simp only [l_eqFileS.l1, grd_bind, cnd_bind, bnd_bind, non_bind, ih]
def l_eqFileS.F {R : Type} (kk : Bool → Option R) (a : List (El kFile)) (b : List (El kFile)) : Option R :=
  cond ((List.length a : Int) != (List.length b : Int)) (kk false) (l_eqFileS.l1 (kk true) (fun b1 => kk b1) fuel a b (0 : Int))
theorem l_eqFileS.F_nat {R S : Type} (g : R → Option S) (kk : Bool → Option R) (a : List (El kFile)) (b : List (El kFile)) : l_eqFileS.F (fun y0 => (kk y0).bind g) a b = (l_eqFileS.F kk a b).bind g := by
  simp only [l_eqFileS.F, grd_bind, cnd_bind, bnd_bind, non_bind, ← l_eqFileS.l1_nat]
def l_eqFileS (a : List (El kFile)) (b : List (El kFile)) : Option Bool := l_eqFileS.F (fun y0 => some y0) a b
theorem l_eqFileS_nat {S : Type} (g : Bool → Option S) (a : List (El kFile)) (b : List (El kFile)) : l_eqFileS.F (fun y0 => g y0) a b = (l_eqFileS a b).bind g := l_eqFileS.F_nat g (fun y0 => some y0) a b
def l_eqFileS.out : Bool → CRes := fun a => ⟨encL SV.enc [.one (.bool)] (a, ()), [encL SC.enc [] (), encL SC.enc [] ()]⟩
def l_eqFileS.ps : List PS := [.val [some (kFile, false)], .val [some (kFile, false)]]
def l_eqFileS.sA : List SA := [.v (.one (.slv [] kFile)), .v (.one (.slv [] kFile))]
def l_eqFileS.fi : FI := FIs l_eqFileS.sA (Bool) (fun t => l_eqFileS t.1 t.2.1) l_eqFileS.out l_eqFileS.ps
def l_eqFileS.E : Env := ⟨tt, lkF [(108, l_eqFile.fi)], 27, 0, [], []⟩
def l_eqFileS.sh1 : SK := ⟨[.v (.one (.slv [1] kFile)), .v (.one (.slv [2] kFile)), .v (.one (.int .i64))], []⟩
def l_eqFileS.sh1e0 : SK := ⟨[], []⟩
def l_eqFileS.sh1r : SK := ⟨[.v (.one (.bool))], []⟩
def l_eqFileS.ko1 : Ex → List CastAt × List Nat
  | .nrm => ([], [])
  | .ret => ([], [4])
  | .ext i => cond (Nat.beq i 0) ([], []) ([], [])
def l_eqFileS.G1 (n : Nat) (R : Type) (t : l_eqFileS.sh1.T) (K : Ex → Kp → Option R) : Option R := l_eqFileS.l1 (K (.ext 0) (SK.enc l_eqFileS.sh1e0 ((), ()))) (fun y0 => K .ret (SK.enc l_eqFileS.sh1r ((y0, ()), ()))) n t.1.1 t.1.2.1 t.1.2.2.1
def l_eqFileS.S1 : Sum := ⟨([], [0, 1, 5]), sumF l_eqFileS.sh1 (l_eqFileS.G1 fuel), l_eqFileS.ko1⟩
theorem l_eqFileS.ok1 (hE : EOk Tryz.prog (l_eqFileS.E)) : SumOk Tryz.prog l_eqFileS.E (cB (cR (cL (cR (cR (bodyOf Tryz.f56)))))) (l_eqFileS.S1) := by
  have hh : HintOk Tryz.prog l_eqFileS.E (cB (cB (cR (cL (cR (cR (bodyOf Tryz.f56))))))) (.a) := HintOk.n1 (Q := True) (by kernel_rfl) trivial
  have h := loopS (kin := ([], [0, 1, 5])) (kout := l_eqFileS.ko1) (sh := l_eqFileS.sh1) (F := l_eqFileS.G1) (ops_ok (hE.gv _)) (by kernel_rfl) hh (fun _ _ _ => rfl) (fun n R t K => by kernel_rfl) fuel
  exact HintOk.n1 (c := (cB (cR (cL (cR (cR (bodyOf Tryz.f56))))))) (h := .s (l_eqFileS.S1)) (P := Tryz.prog) (E := l_eqFileS.E) (by kernel_rfl) h
theorem l_eqFileS.hok (hE : EOk Tryz.prog (l_eqFileS.E)) : HintOk Tryz.prog l_eqFileS.E (bodyOf Tryz.f56) (.n (.a) (.n (.a) (.n (.n (.a) (.b (.s (l_eqFileS.S1)))) (.a)))) := HintOk.n1 (Q := (True) ∧ ((True) ∧ (((True) ∧ (SumOk Tryz.prog l_eqFileS.E (cB (cR (cL (cR (cR (bodyOf Tryz.f56)))))) (l_eqFileS.S1))) ∧ (True)))) (by kernel_rfl) ⟨trivial, ⟨trivial, ⟨⟨trivial, (l_eqFileS.ok1 hE)⟩, trivial⟩⟩⟩
theorem l_eqFileS.hE : EOk Tryz.prog (l_eqFileS.E) := EOk.of ttOk (⟨l_eqFile.fok, trivial⟩)
theorem l_eqFileS.fok : FOk Tryz.prog 56 l_eqFileS.fi :=
  fokS (E := l_eqFileS.E) (wy := ⟨[[none]], [[], []], []⟩) (h := (fun gs => .n (.a) (.n (.a) (.n (.n (.a) (.b (.s (l_eqFileS.S1)))) (.a))))) (G := fun t g => l_eqFileS.F (fun y0 => g y0) t.1 t.2.1) (by kernel_rfl) l_eqFileS.hE Tryz.func56 (by kernel_rfl) rfl (Nat.le_refl _) (fun t => HintOk.n1 (by kernel_rfl) (l_eqFileS.hok l_eqFileS.hE)) (fun t g => l_eqFileS_nat g t.1 t.2.1) (fun t => by kernel_rfl)
/-! loop.example_g00220_laws.eqDisk -/
def l_eqDisk.F {R : Type} (kk : Bool → Option R) (a_Room : Int) (a_Files : List (El kFile)) (b_Room : Int) (b_Files : List (El kFile)) : Option R :=
  cond (a_Room != b_Room) (kk false) (
    (l_eqFileS a_Files b_Files).bind fun r =>
    cond (!r) (kk false) (kk true))
theorem l_eqDisk.F_nat {R S : Type} (g : R → Option S) (kk : Bool → Option R) (a_Room : Int) (a_Files : List (El kFile)) (b_Room : Int) (b_Files : List (El kFile)) : l_eqDisk.F (fun y0 => (kk y0).bind g) a_Room a_Files b_Room b_Files = (l_eqDisk.F kk a_Room a_Files b_Room b_Files).bind g := by
  simp only [l_eqDisk.F, grd_bind, cnd_bind, bnd_bind, non_bind]
def l_eqDisk (a_Room : Int) (a_Files : List (El kFile)) (b_Room : Int) (b_Files : List (El kFile)) : Option Bool := l_eqDisk.F (fun y0 => some y0) a_Room a_Files b_Room b_Files
theorem l_eqDisk_nat {S : Type} (g : Bool → Option S) (a_Room : Int) (a_Files : List (El kFile)) (b_Room : Int) (b_Files : List (El kFile)) : l_eqDisk.F (fun y0 => g y0) a_Room a_Files b_Room b_Files = (l_eqDisk a_Room a_Files b_Room b_Files).bind g := l_eqDisk.F_nat g (fun y0 => some y0) a_Room a_Files b_Room b_Files
def l_eqDisk.out : Bool → CRes := fun a => ⟨encL SV.enc [.one (.bool)] (a, ()), [encL SC.enc [] (), encL SC.enc [] ()]⟩
def l_eqDisk.ps : List PS := [.val [none, some (kFile, false)], .val [none, some (kFile, false)]]
def l_eqDisk.sA : List SA := [.v (.agg [.int .i64, .slv [] kFile]), .v (.agg [.int .i64, .slv [] kFile])]
def l_eqDisk.fi : FI := FIs l_eqDisk.sA (Bool) (fun t => l_eqDisk t.1.1 t.1.2.1 t.2.1.1 t.2.1.2.1) l_eqDisk.out l_eqDisk.ps
def l_eqDisk.E : Env := ⟨tt, lkF [(56, l_eqFileS.fi)], 16, 0, [], []⟩
theorem l_eqDisk.hok (hE : EOk Tryz.prog (l_eqDisk.E)) : HintOk Tryz.prog l_eqDisk.E (bodyOf Tryz.f14) (.a) := HintOk.n1 (Q := True) (by kernel_rfl) trivial
theorem l_eqDisk.hE : EOk Tryz.prog (l_eqDisk.E) := EOk.of ttOk (⟨l_eqFileS.fok, trivial⟩)
theorem l_eqDisk.fok : FOk Tryz.prog 14 l_eqDisk.fi :=
  fokS (E := l_eqDisk.E) (wy := ⟨[[none]], [[], []], []⟩) (h := (fun gs => .a)) (G := fun t g => l_eqDisk.F (fun y0 => g y0) t.1.1 t.1.2.1 t.2.1.1 t.2.1.2.1) (by kernel_rfl) l_eqDisk.hE Tryz.func14 (by kernel_rfl) rfl (Nat.le_refl _) (fun t => HintOk.n1 (by kernel_rfl) (l_eqDisk.hok l_eqDisk.hE)) (fun t g => l_eqDisk_nat g t.1.1 t.1.2.1 t.2.1.1 t.2.1.2.1) (fun t => by kernel_rfl)
/-! loop.example_g00220_laws.markText -/
def l_markText.l1 {R : Type} (kke0 : ByteArray → Option R) : Nat → Int → ByteArray → Option R
  | 0, _, _ => none
  | n + 1, k_, out =>
    cond (decide (k_ > (0 : Int))) (
      grd (gNz (10 : Int)) <|
      grd (gCat (strL [IntKind.wrap .u8 (IntKind.wrap .i64 ((48 : Int) + (Int.tmod k_ (10 : Int))))]) out) <|
      grd (gNz (10 : Int)) <|
      l_markText.l1 kke0 n (IntKind.wrap .i64 (Int.tdiv k_ (10 : Int))) ((strL [IntKind.wrap .u8 (IntKind.wrap .i64 ((48 : Int) + (Int.tmod k_ (10 : Int))))]) ++ out)) (kke0 out)
theorem l_markText.l1_nat {R S : Type} (g : R → Option S) (kke0 : ByteArray → Option R) : ∀ (n : Nat) (k_ : Int) (out : ByteArray), l_markText.l1 (fun y0 => (kke0 y0).bind g) n k_ out = (l_markText.l1 kke0 n k_ out).bind g := by
  intro n
  induction n with
  | zero => intros; rfl
  | succ n ih => intros; simp only [l_markText.l1, grd_bind, cnd_bind, bnd_bind, non_bind, ih]
def l_markText.F {R : Type} (kk : ByteArray → Option R) (k_ : Int) : Option R :=
  cond (decide (k_ ≤ (0 : Int))) (kk (⟨#[109, 48]⟩ : ByteArray)) (
    l_markText.l1 (fun out =>
      grd (gCat (⟨#[109]⟩ : ByteArray) out) <|
      kk ((⟨#[109]⟩ : ByteArray) ++ out)) fuel k_ ByteArray.empty)
theorem l_markText.F_nat {R S : Type} (g : R → Option S) (kk : ByteArray → Option R) (k_ : Int) : l_markText.F (fun y0 => (kk y0).bind g) k_ = (l_markText.F kk k_).bind g := by
  simp only [l_markText.F, grd_bind, cnd_bind, bnd_bind, non_bind, ← l_markText.l1_nat]
def l_markText (k_ : Int) : Option ByteArray := l_markText.F (fun y0 => some y0) k_
theorem l_markText_nat {S : Type} (g : ByteArray → Option S) (k_ : Int) : l_markText.F (fun y0 => g y0) k_ = (l_markText k_).bind g := l_markText.F_nat g (fun y0 => some y0) k_
def l_markText.out : ByteArray → CRes := fun a => ⟨encL SV.enc [.one (.str)] (a, ()), [encL SC.enc [] ()]⟩
def l_markText.ps : List PS := [.val [none]]
def l_markText.sA : List SA := [.v (.one (.int .i64))]
def l_markText.fi : FI := FIs l_markText.sA (ByteArray) (fun t => l_markText t.1) l_markText.out l_markText.ps
def l_markText.E : Env := ⟨tt, lkF [], 20, 0, [], []⟩
def l_markText.sh1 : SK := ⟨[.v (.one (.int .i64)), .v (.one (.str))], []⟩
def l_markText.sh1e0 : SK := ⟨[.v (.one (.str))], []⟩
def l_markText.ko1 : Ex → List CastAt × List Nat
  | .nrm => ([], [])
  | .ret => ([], [])
  | .ext i => cond (Nat.beq i 0) ([], [3]) ([], [])
def l_markText.G1 (n : Nat) (R : Type) (t : l_markText.sh1.T) (K : Ex → Kp → Option R) : Option R := l_markText.l1 (fun y0 => K (.ext 0) (SK.enc l_markText.sh1e0 ((y0, ()), ()))) n t.1.1 t.1.2.1
def l_markText.S1 : Sum := ⟨([], [0, 3]), sumF l_markText.sh1 (l_markText.G1 fuel), l_markText.ko1⟩
theorem l_markText.ok1 (hE : EOk Tryz.prog (l_markText.E)) : SumOk Tryz.prog l_markText.E (cB (cL (cR (cR (cR (bodyOf Tryz.f109)))))) (l_markText.S1) := by
  have hh : HintOk Tryz.prog l_markText.E (cB (cB (cL (cR (cR (cR (bodyOf Tryz.f109))))))) (.a) := HintOk.n1 (Q := True) (by kernel_rfl) trivial
  have h := loopS (kin := ([], [0, 3])) (kout := l_markText.ko1) (sh := l_markText.sh1) (F := l_markText.G1) (ops_ok (hE.gv _)) (by kernel_rfl) hh (fun _ _ _ => rfl) (fun n R t K => by kernel_rfl) fuel
  exact HintOk.n1 (c := (cB (cL (cR (cR (cR (bodyOf Tryz.f109))))))) (h := .s (l_markText.S1)) (P := Tryz.prog) (E := l_markText.E) (by kernel_rfl) h
theorem l_markText.hok (hE : EOk Tryz.prog (l_markText.E)) : HintOk Tryz.prog l_markText.E (bodyOf Tryz.f109) (.n (.a) (.n (.a) (.n (.a) (.n (.b (.s (l_markText.S1))) (.a))))) := HintOk.n1 (Q := (True) ∧ ((True) ∧ ((True) ∧ ((SumOk Tryz.prog l_markText.E (cB (cL (cR (cR (cR (bodyOf Tryz.f109)))))) (l_markText.S1)) ∧ (True))))) (by kernel_rfl) ⟨trivial, ⟨trivial, ⟨trivial, ⟨(l_markText.ok1 hE), trivial⟩⟩⟩⟩
theorem l_markText.hE : EOk Tryz.prog (l_markText.E) := EOk.of ttOk (trivial)
theorem l_markText.fok : FOk Tryz.prog 109 l_markText.fi :=
  fokS (E := l_markText.E) (wy := ⟨[[none]], [[]], []⟩) (h := (fun gs => .n (.a) (.n (.a) (.n (.a) (.n (.b (.s (l_markText.S1))) (.a)))))) (G := fun t g => l_markText.F (fun y0 => g y0) t.1) (by kernel_rfl) l_markText.hE Tryz.func109 (by kernel_rfl) rfl (Nat.le_refl _) (fun t => HintOk.n1 (by kernel_rfl) (l_markText.hok l_markText.hE)) (fun t g => l_markText_nat g t.1) (fun t => by kernel_rfl)
/-! loop.example_g00220_laws.markFileS -/
def l_markFileS.l1 {R : Type} (kke0 : Int → List (El kFile) → Option R) : Nat → Int → Int → List (El kFile) → Option R
  | 0, _, _, _ => none
  | n + 1, k_, i, a =>
    cond (decide (i < (List.length a : Int))) (
      (l_markText k_).bind fun r =>
      grd (gIx i (List.length a)) <|
      (l_markText (IntKind.wrap .i64 (k_ + (1 : Int)))).bind fun r1 =>
      grd (gIx i (List.length (setE kFile a (Int.toNat i) (r, (rdE kFile a (Int.toNat i)).2)))) <|
      grd (gIx i (List.length (setE kFile (setE kFile a (Int.toNat i) (r, (rdE kFile a (Int.toNat i)).2)) (Int.toNat i) ((rdE kFile (setE kFile a (Int.toNat i) (r, (rdE kFile a (Int.toNat i)).2)) (Int.toNat i)).1, (r1, (rdE kFile (setE kFile a (Int.toNat i) (r, (rdE kFile a (Int.toNat i)).2)) (Int.toNat i)).2.2))))) <|
      l_markFileS.l1 kke0 n (IntKind.wrap .i64 ((IntKind.wrap .i64 ((IntKind.wrap .i64 (k_ + (1 : Int))) + (1 : Int))) + (1 : Int))) (IntKind.wrap .i64 (i + (1 : Int))) (setE kFile (setE kFile (setE kFile a (Int.toNat i) (r, (rdE kFile a (Int.toNat i)).2)) (Int.toNat i) ((rdE kFile (setE kFile a (Int.toNat i) (r, (rdE kFile a (Int.toNat i)).2)) (Int.toNat i)).1, (r1, (rdE kFile (setE kFile a (Int.toNat i) (r, (rdE kFile a (Int.toNat i)).2)) (Int.toNat i)).2.2))) (Int.toNat i) ((rdE kFile (setE kFile (setE kFile a (Int.toNat i) (r, (rdE kFile a (Int.toNat i)).2)) (Int.toNat i) ((rdE kFile (setE kFile a (Int.toNat i) (r, (rdE kFile a (Int.toNat i)).2)) (Int.toNat i)).1, (r1, (rdE kFile (setE kFile a (Int.toNat i) (r, (rdE kFile a (Int.toNat i)).2)) (Int.toNat i)).2.2))) (Int.toNat i)).1, ((rdE kFile (setE kFile (setE kFile a (Int.toNat i) (r, (rdE kFile a (Int.toNat i)).2)) (Int.toNat i) ((rdE kFile (setE kFile a (Int.toNat i) (r, (rdE kFile a (Int.toNat i)).2)) (Int.toNat i)).1, (r1, (rdE kFile (setE kFile a (Int.toNat i) (r, (rdE kFile a (Int.toNat i)).2)) (Int.toNat i)).2.2))) (Int.toNat i)).2.1, IntKind.wrap .i64 ((IntKind.wrap .i64 (k_ + (1 : Int))) + (1 : Int)))))) (kke0 k_ a)
theorem l_markFileS.l1_nat {R S : Type} (g : R → Option S) (kke0 : Int → List (El kFile) → Option R) : ∀ (n : Nat) (k_ : Int) (i : Int) (a : List (El kFile)), l_markFileS.l1 (fun y0 y1 => (kke0 y0 y1).bind g) n k_ i a = (l_markFileS.l1 kke0 n k_ i a).bind g := by
  intro n
  induction n with
  | zero => intros; rfl
  | succ n ih => intros; simp only [l_markFileS.l1, grd_bind, cnd_bind, bnd_bind, non_bind, ih]
def l_markFileS.F {R : Type} (kk : Int → List (El kFile) → Option R) (a : List (El kFile)) (k_ : Int) : Option R :=
  l_markFileS.l1 (fun k_1 a1 => kk k_1 a1) fuel k_ (0 : Int) a
theorem l_markFileS.F_nat {R S : Type} (g : R → Option S) (kk : Int → List (El kFile) → Option R) (a : List (El kFile)) (k_ : Int) : l_markFileS.F (fun y0 y1 => (kk y0 y1).bind g) a k_ = (l_markFileS.F kk a k_).bind g := by
  simp only [l_markFileS.F, grd_bind, cnd_bind, bnd_bind, non_bind, ← l_markFileS.l1_nat]
def l_markFileS (a : List (El kFile)) (k_ : Int) : Option (Int × List (El kFile)) := l_markFileS.F (fun y0 y1 => some (y0, y1)) a k_
theorem l_markFileS_nat {S : Type} (g : (Int × List (El kFile)) → Option S) (a : List (El kFile)) (k_ : Int) : l_markFileS.F (fun y0 y1 => g (y0, y1)) a k_ = (l_markFileS a k_).bind g := l_markFileS.F_nat g (fun y0 y1 => some (y0, y1)) a k_
def l_markFileS.out : (Int × List (El kFile)) → CRes := fun a => ⟨encL SV.enc [.one (.int .i64)] (a.1, ()), [encL SC.enc [.own [] kFile true] (a.2, ()), encL SC.enc [] ()]⟩
def l_markFileS.ps : List PS := [.val [some (kFile, true)], .val [none]]
def l_markFileS.sA : List SA := [.v (.one (.own [] kFile true)), .v (.one (.int .i64))]
def l_markFileS.fi : FI := FIs l_markFileS.sA (Int × List (El kFile)) (fun t => l_markFileS t.1 t.2.1) l_markFileS.out l_markFileS.ps
def l_markFileS.E : Env := ⟨tt, lkF [(109, l_markText.fi)], 36, 1, [], []⟩
def l_markFileS.sh1 : SK := ⟨[.v (.one (.slo 0)), .v (.one (.int .i64)), .v (.one (.int .i64))], [.arr kFile [] true]⟩
def l_markFileS.sh1e0 : SK := ⟨[.v (.one (.int .i64))], [.arr kFile [] true]⟩
def l_markFileS.ko1 : Ex → List CastAt × List Nat
  | .nrm => ([], [])
  | .ret => ([], [])
  | .ext i => cond (Nat.beq i 0) ([], [1]) ([], [])
def l_markFileS.G1 (n : Nat) (R : Type) (t : l_markFileS.sh1.T) (K : Ex → Kp → Option R) : Option R := l_markFileS.l1 (fun y0 y1 => K (.ext 0) (SK.enc l_markFileS.sh1e0 ((y0, ()), (y1, ())))) n t.1.2.1 t.1.2.2.1 t.2.1
def l_markFileS.S1 : Sum := ⟨([], [0, 1, 5]), sumF l_markFileS.sh1 (l_markFileS.G1 fuel), l_markFileS.ko1⟩
theorem l_markFileS.ok1 (hE : EOk Tryz.prog (l_markFileS.E)) : SumOk Tryz.prog l_markFileS.E (cB (cR (cL (cR (bodyOf Tryz.f57))))) (l_markFileS.S1) := by
  have hh : HintOk Tryz.prog l_markFileS.E (cB (cB (cR (cL (cR (bodyOf Tryz.f57)))))) (.a) := HintOk.n1 (Q := True) (by kernel_rfl) trivial
  have h := loopS (kin := ([], [0, 1, 5])) (kout := l_markFileS.ko1) (sh := l_markFileS.sh1) (F := l_markFileS.G1) (ops_ok (hE.gv _)) (by kernel_rfl) hh (fun _ _ _ => rfl) (fun n R t K => by kernel_rfl) fuel
  exact HintOk.n1 (c := (cB (cR (cL (cR (bodyOf Tryz.f57)))))) (h := .s (l_markFileS.S1)) (P := Tryz.prog) (E := l_markFileS.E) (by kernel_rfl) h
theorem l_markFileS.hok (hE : EOk Tryz.prog (l_markFileS.E)) : HintOk Tryz.prog l_markFileS.E (bodyOf Tryz.f57) (.n (.a) (.n (.n (.a) (.b (.s (l_markFileS.S1)))) (.a))) := HintOk.n1 (Q := (True) ∧ (((True) ∧ (SumOk Tryz.prog l_markFileS.E (cB (cR (cL (cR (bodyOf Tryz.f57))))) (l_markFileS.S1))) ∧ (True))) (by kernel_rfl) ⟨trivial, ⟨⟨trivial, (l_markFileS.ok1 hE)⟩, trivial⟩⟩
theorem l_markFileS.hE : EOk Tryz.prog (l_markFileS.E) := EOk.of ttOk (⟨l_markText.fok, trivial⟩)
theorem l_markFileS.fok : FOk Tryz.prog 57 l_markFileS.fi :=
  fokS (E := l_markFileS.E) (wy := ⟨[[none]], [[], []], []⟩) (h := (fun gs => .n (.a) (.n (.n (.a) (.b (.s (l_markFileS.S1)))) (.a)))) (G := fun t g => l_markFileS.F (fun y0 y1 => g (y0, y1)) t.1 t.2.1) (by kernel_rfl) l_markFileS.hE Tryz.func57 (by kernel_rfl) rfl (Nat.le_refl _) (fun t => HintOk.n1 (by kernel_rfl) (l_markFileS.hok l_markFileS.hE)) (fun t g => l_markFileS_nat g t.1 t.2.1) (fun t => by kernel_rfl)
/-! loop.example_g00220_laws.markDisk -/
def l_markDisk.F {R : Type} (kk : Int → List (El kFile) → Option R) (a_Room : Int) (a_Files : List (El kFile)) (k_ : Int) : Option R :=
  (l_markFileS a_Files k_).bind fun r =>
  kk r.1 r.2
theorem l_markDisk.F_nat {R S : Type} (g : R → Option S) (kk : Int → List (El kFile) → Option R) (a_Room : Int) (a_Files : List (El kFile)) (k_ : Int) : l_markDisk.F (fun y0 y1 => (kk y0 y1).bind g) a_Room a_Files k_ = (l_markDisk.F kk a_Room a_Files k_).bind g := by
  simp only [l_markDisk.F, grd_bind, cnd_bind, bnd_bind, non_bind]
def l_markDisk (a_Room : Int) (a_Files : List (El kFile)) (k_ : Int) : Option (Int × List (El kFile)) := l_markDisk.F (fun y0 y1 => some (y0, y1)) a_Room a_Files k_
theorem l_markDisk_nat {S : Type} (g : (Int × List (El kFile)) → Option S) (a_Room : Int) (a_Files : List (El kFile)) (k_ : Int) : l_markDisk.F (fun y0 y1 => g (y0, y1)) a_Room a_Files k_ = (l_markDisk a_Room a_Files k_).bind g := l_markDisk.F_nat g (fun y0 y1 => some (y0, y1)) a_Room a_Files k_
def l_markDisk.out : (Int × List (El kFile)) → CRes := fun a => ⟨encL SV.enc [.one (.int .i64)] (a.1, ()), [encL SC.enc [.own [] kFile true] (a.2, ()), encL SC.enc [] ()]⟩
def l_markDisk.ps : List PS := [.val [none, some (kFile, true)], .val [none]]
def l_markDisk.sA : List SA := [.v (.agg [.int .i64, .own [] kFile true]), .v (.one (.int .i64))]
def l_markDisk.fi : FI := FIs l_markDisk.sA (Int × List (El kFile)) (fun t => l_markDisk t.1.1 t.1.2.1 t.2.1) l_markDisk.out l_markDisk.ps
def l_markDisk.E : Env := ⟨tt, lkF [(57, l_markFileS.fi)], 10, 1, [], []⟩
theorem l_markDisk.hok (hE : EOk Tryz.prog (l_markDisk.E)) : HintOk Tryz.prog l_markDisk.E (bodyOf Tryz.f15) (.a) := HintOk.n1 (Q := True) (by kernel_rfl) trivial
theorem l_markDisk.hE : EOk Tryz.prog (l_markDisk.E) := EOk.of ttOk (⟨l_markFileS.fok, trivial⟩)
theorem l_markDisk.fok : FOk Tryz.prog 15 l_markDisk.fi :=
  fokS (E := l_markDisk.E) (wy := ⟨[[none]], [[], []], []⟩) (h := (fun gs => .a)) (G := fun t g => l_markDisk.F (fun y0 y1 => g (y0, y1)) t.1.1 t.1.2.1 t.2.1) (by kernel_rfl) l_markDisk.hE Tryz.func15 (by kernel_rfl) rfl (Nat.le_refl _) (fun t => HintOk.n1 (by kernel_rfl) (l_markDisk.hok l_markDisk.hE)) (fun t g => l_markDisk_nat g t.1.1 t.1.2.1 t.2.1) (fun t => by kernel_rfl)
/-! loop.example_g00220_laws.heldFileS -/
def l_heldFileS.l1 {R : Type} (kke0 : Int → Option R) (kkr : Int → Option R) : Nat → List (El kFile) → Int → Int → Option R
  | 0, _, _, _ => none
  | n + 1, a, k_, i =>
    cond (decide (i < (List.length a : Int))) (
      grd (gIx i (List.length a)) <|
      (l_markText k_).bind fun r =>
      cond (!(sEq (rdE kFile a (Int.toNat i)).1 r)) (kkr (-1 : Int)) (
        grd (gIx i (List.length a)) <|
        (l_markText (IntKind.wrap .i64 (k_ + (1 : Int)))).bind fun r1 =>
        cond (!(sEq (rdE kFile a (Int.toNat i)).2.1 r1)) (kkr (-1 : Int)) (
          grd (gIx i (List.length a)) <|
          cond ((rdE kFile a (Int.toNat i)).2.2 != (IntKind.wrap .i64 ((IntKind.wrap .i64 (k_ + (1 : Int))) + (1 : Int)))) (kkr (-1 : Int)) (
            l_heldFileS.l1 kke0 kkr n a (IntKind.wrap .i64 ((IntKind.wrap .i64 ((IntKind.wrap .i64 (k_ + (1 : Int))) + (1 : Int))) + (1 : Int))) (IntKind.wrap .i64 (i + (1 : Int))))))) (kke0 k_)
theorem l_heldFileS.l1_nat {R S : Type} (g : R → Option S) (kke0 : Int → Option R) (kkr : Int → Option R) : ∀ (n : Nat) (a : List (El kFile)) (k_ : Int) (i : Int), l_heldFileS.l1 (fun y0 => (kke0 y0).bind g) (fun y0 => (kkr y0).bind g) n a k_ i = (l_heldFileS.l1 kke0 kkr n a k_ i).bind g := by
  intro n
  induction n with
  | zero => intros; rfl
  | succ n ih => intros; simp only [l_heldFileS.l1, grd_bind, cnd_bind, bnd_bind, non_bind, ih]
def l_heldFileS.F {R : Type} (kk : Int → Option R) (a : List (El kFile)) (k_ : Int) : Option R :=
  l_heldFileS.l1 (fun k_1 => kk k_1) (fun i => kk i) fuel a k_ (0 : Int)
theorem l_heldFileS.F_nat {R S : Type} (g : R → Option S) (kk : Int → Option R) (a : List (El kFile)) (k_ : Int) : l_heldFileS.F (fun y0 => (kk y0).bind g) a k_ = (l_heldFileS.F kk a k_).bind g := by
  simp only [l_heldFileS.F, grd_bind, cnd_bind, bnd_bind, non_bind, ← l_heldFileS.l1_nat]
def l_heldFileS (a : List (El kFile)) (k_ : Int) : Option Int := l_heldFileS.F (fun y0 => some y0) a k_
theorem l_heldFileS_nat {S : Type} (g : Int → Option S) (a : List (El kFile)) (k_ : Int) : l_heldFileS.F (fun y0 => g y0) a k_ = (l_heldFileS a k_).bind g := l_heldFileS.F_nat g (fun y0 => some y0) a k_
def l_heldFileS.out : Int → CRes := fun a => ⟨encL SV.enc [.one (.int .i64)] (a, ()), [encL SC.enc [] (), encL SC.enc [] ()]⟩
def l_heldFileS.ps : List PS := [.val [some (kFile, false)], .val [none]]
def l_heldFileS.sA : List SA := [.v (.one (.slv [] kFile)), .v (.one (.int .i64))]
def l_heldFileS.fi : FI := FIs l_heldFileS.sA (Int) (fun t => l_heldFileS t.1 t.2.1) l_heldFileS.out l_heldFileS.ps
def l_heldFileS.E : Env := ⟨tt, lkF [(109, l_markText.fi)], 42, 0, [], []⟩
def l_heldFileS.sh1 : SK := ⟨[.v (.one (.slv [1] kFile)), .v (.one (.int .i64)), .v (.one (.int .i64))], []⟩
def l_heldFileS.sh1e0 : SK := ⟨[.v (.one (.int .i64))], []⟩
def l_heldFileS.sh1r : SK := ⟨[.v (.one (.int .i64))], []⟩
def l_heldFileS.ko1 : Ex → List CastAt × List Nat
  | .nrm => ([], [])
  | .ret => ([], [4])
  | .ext i => cond (Nat.beq i 0) ([], [1]) ([], [])
def l_heldFileS.G1 (n : Nat) (R : Type) (t : l_heldFileS.sh1.T) (K : Ex → Kp → Option R) : Option R := l_heldFileS.l1 (fun y0 => K (.ext 0) (SK.enc l_heldFileS.sh1e0 ((y0, ()), ()))) (fun y0 => K .ret (SK.enc l_heldFileS.sh1r ((y0, ()), ()))) n t.1.1 t.1.2.1 t.1.2.2.1
def l_heldFileS.S1 : Sum := ⟨([], [0, 1, 5]), sumF l_heldFileS.sh1 (l_heldFileS.G1 fuel), l_heldFileS.ko1⟩
theorem l_heldFileS.ok1 (hE : EOk Tryz.prog (l_heldFileS.E)) : SumOk Tryz.prog l_heldFileS.E (cB (cR (cL (cR (bodyOf Tryz.f58))))) (l_heldFileS.S1) := by
  have hh : HintOk Tryz.prog l_heldFileS.E (cB (cB (cR (cL (cR (bodyOf Tryz.f58)))))) (.a) := HintOk.n1 (Q := True) (by kernel_rfl) trivial
  have h := loopS (kin := ([], [0, 1, 5])) (kout := l_heldFileS.ko1) (sh := l_heldFileS.sh1) (F := l_heldFileS.G1) (ops_ok (hE.gv _)) (by kernel_rfl) hh (fun _ _ _ => rfl) (fun n R t K => by kernel_rfl) fuel
  exact HintOk.n1 (c := (cB (cR (cL (cR (bodyOf Tryz.f58)))))) (h := .s (l_heldFileS.S1)) (P := Tryz.prog) (E := l_heldFileS.E) (by kernel_rfl) h
theorem l_heldFileS.hok (hE : EOk Tryz.prog (l_heldFileS.E)) : HintOk Tryz.prog l_heldFileS.E (bodyOf Tryz.f58) (.n (.a) (.n (.n (.a) (.b (.s (l_heldFileS.S1)))) (.a))) := HintOk.n1 (Q := (True) ∧ (((True) ∧ (SumOk Tryz.prog l_heldFileS.E (cB (cR (cL (cR (bodyOf Tryz.f58))))) (l_heldFileS.S1))) ∧ (True))) (by kernel_rfl) ⟨trivial, ⟨⟨trivial, (l_heldFileS.ok1 hE)⟩, trivial⟩⟩
theorem l_heldFileS.hE : EOk Tryz.prog (l_heldFileS.E) := EOk.of ttOk (⟨l_markText.fok, trivial⟩)
theorem l_heldFileS.fok : FOk Tryz.prog 58 l_heldFileS.fi :=
  fokS (E := l_heldFileS.E) (wy := ⟨[[none]], [[], []], []⟩) (h := (fun gs => .n (.a) (.n (.n (.a) (.b (.s (l_heldFileS.S1)))) (.a)))) (G := fun t g => l_heldFileS.F (fun y0 => g y0) t.1 t.2.1) (by kernel_rfl) l_heldFileS.hE Tryz.func58 (by kernel_rfl) rfl (Nat.le_refl _) (fun t => HintOk.n1 (by kernel_rfl) (l_heldFileS.hok l_heldFileS.hE)) (fun t g => l_heldFileS_nat g t.1 t.2.1) (fun t => by kernel_rfl)
/-! loop.example_g00220_laws.heldDisk -/
def l_heldDisk.F {R : Type} (kk : Int → Option R) (a_Room : Int) (a_Files : List (El kFile)) (k_ : Int) : Option R :=
  (l_heldFileS a_Files k_).bind fun r =>
  cond (decide (r < (0 : Int))) (kk (-1 : Int)) (kk r)
theorem l_heldDisk.F_nat {R S : Type} (g : R → Option S) (kk : Int → Option R) (a_Room : Int) (a_Files : List (El kFile)) (k_ : Int) : l_heldDisk.F (fun y0 => (kk y0).bind g) a_Room a_Files k_ = (l_heldDisk.F kk a_Room a_Files k_).bind g := by
  simp only [l_heldDisk.F, grd_bind, cnd_bind, bnd_bind, non_bind]
def l_heldDisk (a_Room : Int) (a_Files : List (El kFile)) (k_ : Int) : Option Int := l_heldDisk.F (fun y0 => some y0) a_Room a_Files k_
theorem l_heldDisk_nat {S : Type} (g : Int → Option S) (a_Room : Int) (a_Files : List (El kFile)) (k_ : Int) : l_heldDisk.F (fun y0 => g y0) a_Room a_Files k_ = (l_heldDisk a_Room a_Files k_).bind g := l_heldDisk.F_nat g (fun y0 => some y0) a_Room a_Files k_
def l_heldDisk.out : Int → CRes := fun a => ⟨encL SV.enc [.one (.int .i64)] (a, ()), [encL SC.enc [] (), encL SC.enc [] ()]⟩
def l_heldDisk.ps : List PS := [.val [none, some (kFile, false)], .val [none]]
def l_heldDisk.sA : List SA := [.v (.agg [.int .i64, .slv [] kFile]), .v (.one (.int .i64))]
def l_heldDisk.fi : FI := FIs l_heldDisk.sA (Int) (fun t => l_heldDisk t.1.1 t.1.2.1 t.2.1) l_heldDisk.out l_heldDisk.ps
def l_heldDisk.E : Env := ⟨tt, lkF [(58, l_heldFileS.fi)], 12, 0, [], []⟩
theorem l_heldDisk.hok (hE : EOk Tryz.prog (l_heldDisk.E)) : HintOk Tryz.prog l_heldDisk.E (bodyOf Tryz.f16) (.a) := HintOk.n1 (Q := True) (by kernel_rfl) trivial
theorem l_heldDisk.hE : EOk Tryz.prog (l_heldDisk.E) := EOk.of ttOk (⟨l_heldFileS.fok, trivial⟩)
theorem l_heldDisk.fok : FOk Tryz.prog 16 l_heldDisk.fi :=
  fokS (E := l_heldDisk.E) (wy := ⟨[[none]], [[], []], []⟩) (h := (fun gs => .a)) (G := fun t g => l_heldDisk.F (fun y0 => g y0) t.1.1 t.1.2.1 t.2.1) (by kernel_rfl) l_heldDisk.hE Tryz.func16 (by kernel_rfl) rfl (Nat.le_refl _) (fun t => HintOk.n1 (by kernel_rfl) (l_heldDisk.hok l_heldDisk.hE)) (fun t g => l_heldDisk_nat g t.1.1 t.1.2.1 t.2.1) (fun t => by kernel_rfl)
/-! loop.example_g00220_spec.l03Own -/
def s_l03Own.F {R : Type} (kk : Int → List (El kFile) → Option R) (d_Room : Int) (d_Files : List (El kFile)) : Option R :=
  grd (gRm (((List.length ([] : List (El kFile))) + (List.length d_Files)) * 40)) <|
  kk d_Room (([] : List (El kFile)) ++ d_Files)
theorem s_l03Own.F_nat {R S : Type} (g : R → Option S) (kk : Int → List (El kFile) → Option R) (d_Room : Int) (d_Files : List (El kFile)) : s_l03Own.F (fun y0 y1 => (kk y0 y1).bind g) d_Room d_Files = (s_l03Own.F kk d_Room d_Files).bind g := by
  simp only [s_l03Own.F, grd_bind, cnd_bind, bnd_bind, non_bind]
def s_l03Own (d_Room : Int) (d_Files : List (El kFile)) : Option (Int × List (El kFile)) := s_l03Own.F (fun y0 y1 => some (y0, y1)) d_Room d_Files
theorem s_l03Own_nat {S : Type} (g : (Int × List (El kFile)) → Option S) (d_Room : Int) (d_Files : List (El kFile)) : s_l03Own.F (fun y0 y1 => g (y0, y1)) d_Room d_Files = (s_l03Own d_Room d_Files).bind g := s_l03Own.F_nat g (fun y0 y1 => some (y0, y1)) d_Room d_Files
def s_l03Own.out : (Int × List (El kFile)) → CRes := fun a => ⟨encL SV.enc [.agg [.int .i64, .own [] kFile true]] ((a.1, a.2, ()), ()), [encL SC.enc [] ()]⟩
def s_l03Own.ps : List PS := [.val [none, some (kFile, false)]]
def s_l03Own.sA : List SA := [.v (.agg [.int .i64, .slv [] kFile])]
def s_l03Own.fi : FI := FIs s_l03Own.sA (Int × List (El kFile)) (fun t => s_l03Own t.1.1 t.1.2.1) s_l03Own.out s_l03Own.ps
def s_l03Own.E : Env := ⟨tt, lkF [], 10, 0, [], []⟩
theorem s_l03Own.hok (hE : EOk Tryz.prog (s_l03Own.E)) : HintOk Tryz.prog s_l03Own.E (bodyOf Tryz.f50) (.a) := HintOk.n1 (Q := True) (by kernel_rfl) trivial
theorem s_l03Own.hE : EOk Tryz.prog (s_l03Own.E) := EOk.of ttOk (trivial)
theorem s_l03Own.fok : FOk Tryz.prog 50 s_l03Own.fi :=
  fokS (E := s_l03Own.E) (wy := ⟨[[none, some (kFile, true)]], [[]], []⟩) (h := (fun gs => .a)) (G := fun t g => s_l03Own.F (fun y0 y1 => g (y0, y1)) t.1.1 t.1.2.1) (by kernel_rfl) s_l03Own.hE Tryz.func50 (by kernel_rfl) rfl (Nat.le_refl _) (fun t => HintOk.n1 (by kernel_rfl) (s_l03Own.hok s_l03Own.hE)) (fun t g => s_l03Own_nat g t.1.1 t.1.2.1) (fun t => by kernel_rfl)
/-! loop.example_g00220_spec.l01In -/
def s_l01In.F {R : Type} (kk : Bool → Option R) (n_ : Int) (low : Int) (high : Int) : Option R :=
  cond (decide (n_ ≥ low)) (kk (decide (n_ ≤ high))) (kk false)
theorem s_l01In.F_nat {R S : Type} (g : R → Option S) (kk : Bool → Option R) (n_ : Int) (low : Int) (high : Int) : s_l01In.F (fun y0 => (kk y0).bind g) n_ low high = (s_l01In.F kk n_ low high).bind g := by
  simp only [s_l01In.F, grd_bind, cnd_bind, bnd_bind, non_bind]
def s_l01In (n_ : Int) (low : Int) (high : Int) : Option Bool := s_l01In.F (fun y0 => some y0) n_ low high
theorem s_l01In_nat {S : Type} (g : Bool → Option S) (n_ : Int) (low : Int) (high : Int) : s_l01In.F (fun y0 => g y0) n_ low high = (s_l01In n_ low high).bind g := s_l01In.F_nat g (fun y0 => some y0) n_ low high
def s_l01In.out : Bool → CRes := fun a => ⟨encL SV.enc [.one (.bool)] (a, ()), [encL SC.enc [] (), encL SC.enc [] (), encL SC.enc [] ()]⟩
def s_l01In.ps : List PS := [.val [none], .val [none], .val [none]]
def s_l01In.sA : List SA := [.v (.one (.int .i64)), .v (.one (.int .i64)), .v (.one (.int .i64))]
def s_l01In.fi : FI := FIs s_l01In.sA (Bool) (fun t => s_l01In t.1 t.2.1 t.2.2.1) s_l01In.out s_l01In.ps
def s_l01In.E : Env := ⟨tt, lkF [], 15, 0, [], []⟩
theorem s_l01In.hok (hE : EOk Tryz.prog (s_l01In.E)) : HintOk Tryz.prog s_l01In.E (bodyOf Tryz.f59) (.a) := HintOk.n1 (Q := True) (by kernel_rfl) trivial
theorem s_l01In.hE : EOk Tryz.prog (s_l01In.E) := EOk.of ttOk (trivial)
theorem s_l01In.fok : FOk Tryz.prog 59 s_l01In.fi :=
  fokS (E := s_l01In.E) (wy := ⟨[[none]], [[], [], []], []⟩) (h := (fun gs => .a)) (G := fun t g => s_l01In.F (fun y0 => g y0) t.1 t.2.1 t.2.2.1) (by kernel_rfl) s_l01In.hE Tryz.func59 (by kernel_rfl) rfl (Nat.le_refl _) (fun t => HintOk.n1 (by kernel_rfl) (s_l01In.hok s_l01In.hE)) (fun t g => s_l01In_nat g t.1 t.2.1 t.2.2.1) (fun t => by kernel_rfl)
/-! loop.example_g00220_spec.l00Digit -/
def s_l00Digit.F {R : Type} (kk : Bool → Option R) (c : Int) : Option R :=
  cond (decide (c ≥ (48 : Int))) (kk (decide (c ≤ (57 : Int)))) (kk false)
theorem s_l00Digit.F_nat {R S : Type} (g : R → Option S) (kk : Bool → Option R) (c : Int) : s_l00Digit.F (fun y0 => (kk y0).bind g) c = (s_l00Digit.F kk c).bind g := by
  simp only [s_l00Digit.F, grd_bind, cnd_bind, bnd_bind, non_bind]
def s_l00Digit (c : Int) : Option Bool := s_l00Digit.F (fun y0 => some y0) c
theorem s_l00Digit_nat {S : Type} (g : Bool → Option S) (c : Int) : s_l00Digit.F (fun y0 => g y0) c = (s_l00Digit c).bind g := s_l00Digit.F_nat g (fun y0 => some y0) c
def s_l00Digit.out : Bool → CRes := fun a => ⟨encL SV.enc [.one (.bool)] (a, ()), [encL SC.enc [] ()]⟩
def s_l00Digit.ps : List PS := [.val [none]]
def s_l00Digit.sA : List SA := [.v (.one (.int .u8))]
def s_l00Digit.fi : FI := FIs s_l00Digit.sA (Bool) (fun t => s_l00Digit t.1) s_l00Digit.out s_l00Digit.ps
def s_l00Digit.E : Env := ⟨tt, lkF [], 9, 0, [], []⟩
theorem s_l00Digit.hok (hE : EOk Tryz.prog (s_l00Digit.E)) : HintOk Tryz.prog s_l00Digit.E (bodyOf Tryz.f158) (.a) := HintOk.n1 (Q := True) (by kernel_rfl) trivial
theorem s_l00Digit.hE : EOk Tryz.prog (s_l00Digit.E) := EOk.of ttOk (trivial)
theorem s_l00Digit.fok : FOk Tryz.prog 158 s_l00Digit.fi :=
  fokS (E := s_l00Digit.E) (wy := ⟨[[none]], [[]], []⟩) (h := (fun gs => .a)) (G := fun t g => s_l00Digit.F (fun y0 => g y0) t.1) (by kernel_rfl) s_l00Digit.hE Tryz.func158 (by kernel_rfl) rfl (Nat.le_refl _) (fun t => HintOk.n1 (by kernel_rfl) (s_l00Digit.hok s_l00Digit.hE)) (fun t g => s_l00Digit_nat g t.1) (fun t => by kernel_rfl)
/-! loop.example_g00220_spec.l00Letter -/
def s_l00Letter.F {R : Type} (kk : Bool → Option R) (c : Int) : Option R :=
  cond (decide (c ≥ (97 : Int))) (
    cond (decide (c ≤ (122 : Int))) (kk true) (
      cond (decide (c ≥ (65 : Int))) (cond (decide (c ≤ (90 : Int))) (kk true) (kk (c == (95 : Int)))) (kk (c == (95 : Int))))) (
    cond (decide (c ≥ (65 : Int))) (cond (decide (c ≤ (90 : Int))) (kk true) (kk (c == (95 : Int)))) (kk (c == (95 : Int))))
theorem s_l00Letter.F_nat {R S : Type} (g : R → Option S) (kk : Bool → Option R) (c : Int) : s_l00Letter.F (fun y0 => (kk y0).bind g) c = (s_l00Letter.F kk c).bind g := by
  simp only [s_l00Letter.F, grd_bind, cnd_bind, bnd_bind, non_bind]
def s_l00Letter (c : Int) : Option Bool := s_l00Letter.F (fun y0 => some y0) c
theorem s_l00Letter_nat {S : Type} (g : Bool → Option S) (c : Int) : s_l00Letter.F (fun y0 => g y0) c = (s_l00Letter c).bind g := s_l00Letter.F_nat g (fun y0 => some y0) c
def s_l00Letter.out : Bool → CRes := fun a => ⟨encL SV.enc [.one (.bool)] (a, ()), [encL SC.enc [] ()]⟩
def s_l00Letter.ps : List PS := [.val [none]]
def s_l00Letter.sA : List SA := [.v (.one (.int .u8))]
def s_l00Letter.fi : FI := FIs s_l00Letter.sA (Bool) (fun t => s_l00Letter t.1) s_l00Letter.out s_l00Letter.ps
def s_l00Letter.E : Env := ⟨tt, lkF [], 21, 0, [], []⟩
theorem s_l00Letter.hok (hE : EOk Tryz.prog (s_l00Letter.E)) : HintOk Tryz.prog s_l00Letter.E (bodyOf Tryz.f177) (.a) := HintOk.n1 (Q := True) (by kernel_rfl) trivial
theorem s_l00Letter.hE : EOk Tryz.prog (s_l00Letter.E) := EOk.of ttOk (trivial)
theorem s_l00Letter.fok : FOk Tryz.prog 177 s_l00Letter.fi :=
  fokS (E := s_l00Letter.E) (wy := ⟨[[none]], [[]], []⟩) (h := (fun gs => .a)) (G := fun t g => s_l00Letter.F (fun y0 => g y0) t.1) (by kernel_rfl) s_l00Letter.hE Tryz.func177 (by kernel_rfl) rfl (Nat.le_refl _) (fun t => HintOk.n1 (by kernel_rfl) (s_l00Letter.hok s_l00Letter.hE)) (fun t g => s_l00Letter_nat g t.1) (fun t => by kernel_rfl)
/-! loop.example_g00220_spec.l00Word -/
def s_l00Word.l1 {R : Type} (kke0 : Option R) (kkr : Bool → Option R) : Nat → ByteArray → Int → Option R
  | 0, _, _ => none
  | n + 1, t_, i =>
    cond (decide (i < (ByteArray.size t_ : Int))) (
      grd (gIx i (ByteArray.size t_)) <|
      (s_l00Letter (byteAt t_ i)).bind fun r =>
      cond (!r) (
        grd (gIx i (ByteArray.size t_)) <|
        (s_l00Digit (byteAt t_ i)).bind fun r1 =>
        cond (!r1) (kkr false) (s_l00Word.l1 kke0 kkr n t_ (IntKind.wrap .i64 (i + (1 : Int))))) (s_l00Word.l1 kke0 kkr n t_ (IntKind.wrap .i64 (i + (1 : Int))))) (kke0)
theorem s_l00Word.l1_nat {R S : Type} (g : R → Option S) (kke0 : Option R) (kkr : Bool → Option R) : ∀ (n : Nat) (t_ : ByteArray) (i : Int), s_l00Word.l1 (kke0.bind g) (fun y0 => (kkr y0).bind g) n t_ i = (s_l00Word.l1 kke0 kkr n t_ i).bind g := by
  intro n
  induction n with
  | zero => intros; rfl
  | succ n ih => intros; simp only [s_l00Word.l1, grd_bind, cnd_bind, bnd_bind, non_bind, ih]
def s_l00Word.F {R : Type} (kk : Bool → Option R) (t_ : ByteArray) : Option R :=
  cond (decide ((ByteArray.size t_ : Int) < (1 : Int))) (kk false) (
    cond (decide ((ByteArray.size t_ : Int) > (40 : Int))) (kk false) (
      grd (gIx (0 : Int) (ByteArray.size t_)) <|
      (s_l00Letter (byteAt t_ (0 : Int))).bind fun r =>
      cond (!r) (kk false) (s_l00Word.l1 (kk true) (fun b => kk b) fuel t_ (1 : Int))))
theorem s_l00Word.F_nat {R S : Type} (g : R → Option S) (kk : Bool → Option R) (t_ : ByteArray) : s_l00Word.F (fun y0 => (kk y0).bind g) t_ = (s_l00Word.F kk t_).bind g := by
  simp only [s_l00Word.F, grd_bind, cnd_bind, bnd_bind, non_bind, ← s_l00Word.l1_nat]
def s_l00Word (t_ : ByteArray) : Option Bool := s_l00Word.F (fun y0 => some y0) t_
theorem s_l00Word_nat {S : Type} (g : Bool → Option S) (t_ : ByteArray) : s_l00Word.F (fun y0 => g y0) t_ = (s_l00Word t_).bind g := s_l00Word.F_nat g (fun y0 => some y0) t_
def s_l00Word.out : Bool → CRes := fun a => ⟨encL SV.enc [.one (.bool)] (a, ()), [encL SC.enc [] ()]⟩
def s_l00Word.ps : List PS := [.val [none]]
def s_l00Word.sA : List SA := [.v (.one (.str))]
def s_l00Word.fi : FI := FIs s_l00Word.sA (Bool) (fun t => s_l00Word t.1) s_l00Word.out s_l00Word.ps
def s_l00Word.E : Env := ⟨tt, lkF [(158, s_l00Digit.fi), (177, s_l00Letter.fi)], 36, 0, [], []⟩
def s_l00Word.sh1 : SK := ⟨[.v (.one (.str)), .v (.one (.int .i64))], []⟩
def s_l00Word.sh1e0 : SK := ⟨[], []⟩
def s_l00Word.sh1r : SK := ⟨[.v (.one (.bool))], []⟩
def s_l00Word.ko1 : Ex → List CastAt × List Nat
  | .nrm => ([], [])
  | .ret => ([], [2])
  | .ext i => cond (Nat.beq i 0) ([], []) ([], [])
def s_l00Word.G1 (n : Nat) (R : Type) (t : s_l00Word.sh1.T) (K : Ex → Kp → Option R) : Option R := s_l00Word.l1 (K (.ext 0) (SK.enc s_l00Word.sh1e0 ((), ()))) (fun y0 => K .ret (SK.enc s_l00Word.sh1r ((y0, ()), ()))) n t.1.1 t.1.2.1
def s_l00Word.S1 : Sum := ⟨([], [0, 3]), sumF s_l00Word.sh1 (s_l00Word.G1 fuel), s_l00Word.ko1⟩
theorem s_l00Word.ok1 (hE : EOk Tryz.prog (s_l00Word.E)) : SumOk Tryz.prog s_l00Word.E (cB (cR (cL (cR (cR (bodyOf Tryz.f156)))))) (s_l00Word.S1) := by
  have hh : HintOk Tryz.prog s_l00Word.E (cB (cB (cR (cL (cR (cR (bodyOf Tryz.f156))))))) (.a) := HintOk.n1 (Q := True) (by kernel_rfl) trivial
  have h := loopS (kin := ([], [0, 3])) (kout := s_l00Word.ko1) (sh := s_l00Word.sh1) (F := s_l00Word.G1) (ops_ok (hE.gv _)) (by kernel_rfl) hh (fun _ _ _ => rfl) (fun n R t K => by kernel_rfl) fuel
  exact HintOk.n1 (c := (cB (cR (cL (cR (cR (bodyOf Tryz.f156))))))) (h := .s (s_l00Word.S1)) (P := Tryz.prog) (E := s_l00Word.E) (by kernel_rfl) h
theorem s_l00Word.hok (hE : EOk Tryz.prog (s_l00Word.E)) : HintOk Tryz.prog s_l00Word.E (bodyOf Tryz.f156) (.n (.a) (.n (.a) (.n (.n (.a) (.b (.s (s_l00Word.S1)))) (.a)))) := HintOk.n1 (Q := (True) ∧ ((True) ∧ (((True) ∧ (SumOk Tryz.prog s_l00Word.E (cB (cR (cL (cR (cR (bodyOf Tryz.f156)))))) (s_l00Word.S1))) ∧ (True)))) (by kernel_rfl) ⟨trivial, ⟨trivial, ⟨⟨trivial, (s_l00Word.ok1 hE)⟩, trivial⟩⟩⟩
theorem s_l00Word.hE : EOk Tryz.prog (s_l00Word.E) := EOk.of ttOk (⟨s_l00Digit.fok, ⟨s_l00Letter.fok, trivial⟩⟩)
theorem s_l00Word.fok : FOk Tryz.prog 156 s_l00Word.fi :=
  fokS (E := s_l00Word.E) (wy := ⟨[[none]], [[]], []⟩) (h := (fun gs => .n (.a) (.n (.a) (.n (.n (.a) (.b (.s (s_l00Word.S1)))) (.a))))) (G := fun t g => s_l00Word.F (fun y0 => g y0) t.1) (by kernel_rfl) s_l00Word.hE Tryz.func156 (by kernel_rfl) rfl (Nat.le_refl _) (fun t => HintOk.n1 (by kernel_rfl) (s_l00Word.hok s_l00Word.hE)) (fun t g => s_l00Word_nat g t.1) (fun t => by kernel_rfl)
/-! loop.example_g00220_spec.NameOK -/
def s_NameOK.F {R : Type} (kk : Bool → Option R) (t_ : ByteArray) : Option R :=
  (s_l00Word t_).bind fun r =>
  kk r
theorem s_NameOK.F_nat {R S : Type} (g : R → Option S) (kk : Bool → Option R) (t_ : ByteArray) : s_NameOK.F (fun y0 => (kk y0).bind g) t_ = (s_NameOK.F kk t_).bind g := by
  simp only [s_NameOK.F, grd_bind, cnd_bind, bnd_bind, non_bind]
def s_NameOK (t_ : ByteArray) : Option Bool := s_NameOK.F (fun y0 => some y0) t_
theorem s_NameOK_nat {S : Type} (g : Bool → Option S) (t_ : ByteArray) : s_NameOK.F (fun y0 => g y0) t_ = (s_NameOK t_).bind g := s_NameOK.F_nat g (fun y0 => some y0) t_
def s_NameOK.out : Bool → CRes := fun a => ⟨encL SV.enc [.one (.bool)] (a, ()), [encL SC.enc [] ()]⟩
def s_NameOK.ps : List PS := [.val [none]]
def s_NameOK.sA : List SA := [.v (.one (.str))]
def s_NameOK.fi : FI := FIs s_NameOK.sA (Bool) (fun t => s_NameOK t.1) s_NameOK.out s_NameOK.ps
def s_NameOK.E : Env := ⟨tt, lkF [(156, s_l00Word.fi)], 5, 0, [], []⟩
theorem s_NameOK.hok (hE : EOk Tryz.prog (s_NameOK.E)) : HintOk Tryz.prog s_NameOK.E (bodyOf Tryz.f120) (.a) := HintOk.n1 (Q := True) (by kernel_rfl) trivial
theorem s_NameOK.hE : EOk Tryz.prog (s_NameOK.E) := EOk.of ttOk (⟨s_l00Word.fok, trivial⟩)
theorem s_NameOK.fok : FOk Tryz.prog 120 s_NameOK.fi :=
  fokS (E := s_NameOK.E) (wy := ⟨[[none]], [[]], []⟩) (h := (fun gs => .a)) (G := fun t g => s_NameOK.F (fun y0 => g y0) t.1) (by kernel_rfl) s_NameOK.hE Tryz.func120 (by kernel_rfl) rfl (Nat.le_refl _) (fun t => HintOk.n1 (by kernel_rfl) (s_NameOK.hok s_NameOK.hE)) (fun t g => s_NameOK_nat g t.1) (fun t => by kernel_rfl)
/-! loop.example_g00220_spec.l03Used -/
def s_l03Used.l1 {R : Type} (kke0 : Int → Option R) : Nat → Int → Int → Int → List (El kFile) → Option R
  | 0, _, _, _, _ => none
  | n + 1, n_, i, d, d1 =>
    cond (decide (i < (List.length d1 : Int))) (
      grd (gIx i (List.length d1)) <|
      s_l03Used.l1 kke0 n (IntKind.wrap .i64 (n_ + (ByteArray.size (rdE kFile d1 (Int.toNat i)).2.1 : Int))) (IntKind.wrap .i64 (i + (1 : Int))) d d1) (kke0 n_)
theorem s_l03Used.l1_nat {R S : Type} (g : R → Option S) (kke0 : Int → Option R) : ∀ (n : Nat) (n_ : Int) (i : Int) (d : Int) (d1 : List (El kFile)), s_l03Used.l1 (fun y0 => (kke0 y0).bind g) n n_ i d d1 = (s_l03Used.l1 kke0 n n_ i d d1).bind g := by
  intro n
  induction n with
  | zero => intros; rfl
  | succ n ih => intros; simp only [s_l03Used.l1, grd_bind, cnd_bind, bnd_bind, non_bind, ih]
def s_l03Used.F {R : Type} (kk : Int → Option R) (d_Room : Int) (d_Files : List (El kFile)) : Option R :=
  s_l03Used.l1 (fun n_ => kk n_) fuel (0 : Int) (0 : Int) d_Room d_Files
theorem s_l03Used.F_nat {R S : Type} (g : R → Option S) (kk : Int → Option R) (d_Room : Int) (d_Files : List (El kFile)) : s_l03Used.F (fun y0 => (kk y0).bind g) d_Room d_Files = (s_l03Used.F kk d_Room d_Files).bind g := by
  simp only [s_l03Used.F, grd_bind, cnd_bind, bnd_bind, non_bind, ← s_l03Used.l1_nat]
def s_l03Used (d_Room : Int) (d_Files : List (El kFile)) : Option Int := s_l03Used.F (fun y0 => some y0) d_Room d_Files
theorem s_l03Used_nat {S : Type} (g : Int → Option S) (d_Room : Int) (d_Files : List (El kFile)) : s_l03Used.F (fun y0 => g y0) d_Room d_Files = (s_l03Used d_Room d_Files).bind g := s_l03Used.F_nat g (fun y0 => some y0) d_Room d_Files
def s_l03Used.out : Int → CRes := fun a => ⟨encL SV.enc [.one (.int .i64)] (a, ()), [encL SC.enc [] ()]⟩
def s_l03Used.ps : List PS := [.val [none, some (kFile, false)]]
def s_l03Used.sA : List SA := [.v (.agg [.int .i64, .slv [] kFile])]
def s_l03Used.fi : FI := FIs s_l03Used.sA (Int) (fun t => s_l03Used t.1.1 t.1.2.1) s_l03Used.out s_l03Used.ps
def s_l03Used.E : Env := ⟨tt, lkF [], 22, 0, [], []⟩
def s_l03Used.sh1 : SK := ⟨[.v (.one (.bptr 0 0)), .v (.one (.int .i64)), .v (.one (.int .i64))], [.box [.int .i64, .slv [1] kFile]]⟩
def s_l03Used.sh1e0 : SK := ⟨[.v (.one (.int .i64))], []⟩
def s_l03Used.ko1 : Ex → List CastAt × List Nat
  | .nrm => ([], [])
  | .ret => ([], [])
  | .ext i => cond (Nat.beq i 0) ([], [3]) ([], [])
def s_l03Used.G1 (n : Nat) (R : Type) (t : s_l03Used.sh1.T) (K : Ex → Kp → Option R) : Option R := s_l03Used.l1 (fun y0 => K (.ext 0) (SK.enc s_l03Used.sh1e0 ((y0, ()), ()))) n t.1.2.1 t.1.2.2.1 t.2.1.1 t.2.1.2.1
def s_l03Used.S1 : Sum := ⟨([], [1, 3, 4]), sumF s_l03Used.sh1 (s_l03Used.G1 fuel), s_l03Used.ko1⟩
theorem s_l03Used.ok1 (hE : EOk Tryz.prog (s_l03Used.E)) : SumOk Tryz.prog s_l03Used.E (cB (cR (cL (cR (cR (bodyOf Tryz.f121)))))) (s_l03Used.S1) := by
  have hh : HintOk Tryz.prog s_l03Used.E (cB (cB (cR (cL (cR (cR (bodyOf Tryz.f121))))))) (.a) := HintOk.n1 (Q := True) (by kernel_rfl) trivial
  have h := loopS (kin := ([], [1, 3, 4])) (kout := s_l03Used.ko1) (sh := s_l03Used.sh1) (F := s_l03Used.G1) (ops_ok (hE.gv _)) (by kernel_rfl) hh (fun _ _ _ => rfl) (fun n R t K => by kernel_rfl) fuel
  exact HintOk.n1 (c := (cB (cR (cL (cR (cR (bodyOf Tryz.f121))))))) (h := .s (s_l03Used.S1)) (P := Tryz.prog) (E := s_l03Used.E) (by kernel_rfl) h
theorem s_l03Used.hok (hE : EOk Tryz.prog (s_l03Used.E)) : HintOk Tryz.prog s_l03Used.E (bodyOf Tryz.f121) (.n (.a) (.n (.a) (.n (.n (.a) (.b (.s (s_l03Used.S1)))) (.a)))) := HintOk.n1 (Q := (True) ∧ ((True) ∧ (((True) ∧ (SumOk Tryz.prog s_l03Used.E (cB (cR (cL (cR (cR (bodyOf Tryz.f121)))))) (s_l03Used.S1))) ∧ (True)))) (by kernel_rfl) ⟨trivial, ⟨trivial, ⟨⟨trivial, (s_l03Used.ok1 hE)⟩, trivial⟩⟩⟩
theorem s_l03Used.hE : EOk Tryz.prog (s_l03Used.E) := EOk.of ttOk (trivial)
theorem s_l03Used.fok : FOk Tryz.prog 121 s_l03Used.fi :=
  fokS (E := s_l03Used.E) (wy := ⟨[[none]], [[]], []⟩) (h := (fun gs => .n (.a) (.n (.a) (.n (.n (.a) (.b (.s (s_l03Used.S1)))) (.a))))) (G := fun t g => s_l03Used.F (fun y0 => g y0) t.1.1 t.1.2.1) (by kernel_rfl) s_l03Used.hE Tryz.func121 (by kernel_rfl) rfl (Nat.le_refl _) (fun t => HintOk.n1 (by kernel_rfl) (s_l03Used.hok s_l03Used.hE)) (fun t g => s_l03Used_nat g t.1.1 t.1.2.1) (fun t => by kernel_rfl)
/-! loop.example_g00220_spec.DiskOK -/
def s_DiskOK.l1 {R : Type} (kke0 : Int → List (El kFile) → Option R) (kkr : Bool → Option R) : Nat → Int → Int → List (El kFile) → Option R
  | 0, _, _, _ => none
  | n + 1, i, d, d1 =>
    cond (decide (i < (List.length d1 : Int))) (
      grd (gIx i (List.length d1)) <|
      (s_NameOK ((rdE kFile d1 (Int.toNat i)).1)).bind fun r =>
      cond (!r) (kkr false) (
        (s_l01In ((rdE kFile d1 (Int.toNat i)).2.2) (0 : Int) (ByteArray.size (rdE kFile d1 (Int.toNat i)).2.1 : Int)).bind fun r1 =>
        cond (!r1) (kkr false) (
          cond (decide ((ByteArray.size (rdE kFile d1 (Int.toNat i)).2.1 : Int) > (3000 : Int))) (kkr false) (
            cond (decide (i > (0 : Int))) (
              grd (gIx (IntKind.wrap .i64 (i - (1 : Int))) (List.length d1)) <|
              cond (!(sLt (rdE kFile d1 (Int.toNat (IntKind.wrap .i64 (i - (1 : Int))))).1 (rdE kFile d1 (Int.toNat i)).1)) (kkr false) (s_DiskOK.l1 kke0 kkr n (IntKind.wrap .i64 (i + (1 : Int))) d d1)) (s_DiskOK.l1 kke0 kkr n (IntKind.wrap .i64 (i + (1 : Int))) d d1))))) (kke0 d d1)
theorem s_DiskOK.l1_nat {R S : Type} (g : R → Option S) (kke0 : Int → List (El kFile) → Option R) (kkr : Bool → Option R) : ∀ (n : Nat) (i : Int) (d : Int) (d1 : List (El kFile)), s_DiskOK.l1 (fun y0 y1 => (kke0 y0 y1).bind g) (fun y0 => (kkr y0).bind g) n i d d1 = (s_DiskOK.l1 kke0 kkr n i d d1).bind g := by
  intro n
  induction n with
  | zero => intros; rfl
  | succ n ih => intros; simp only [s_DiskOK.l1, grd_bind, cnd_bind, bnd_bind, non_bind, ih]
def s_DiskOK.F {R : Type} (kk : Bool → Option R) (d_Room : Int) (d_Files : List (El kFile)) : Option R :=
  (s_l01In d_Room (0 : Int) (3000 : Int)).bind fun r =>
  cond (!r) (kk false) (
    cond (decide ((List.length d_Files : Int) > (8 : Int))) (kk false) (
      s_DiskOK.l1 (fun d d1 =>
        (s_l03Used d d1).bind fun r1 =>
        kk (decide (r1 ≤ d))) (fun b => kk b) fuel (0 : Int) d_Room d_Files))
theorem s_DiskOK.F_nat {R S : Type} (g : R → Option S) (kk : Bool → Option R) (d_Room : Int) (d_Files : List (El kFile)) : s_DiskOK.F (fun y0 => (kk y0).bind g) d_Room d_Files = (s_DiskOK.F kk d_Room d_Files).bind g := by
  simp only [s_DiskOK.F, grd_bind, cnd_bind, bnd_bind, non_bind, ← s_DiskOK.l1_nat]
def s_DiskOK (d_Room : Int) (d_Files : List (El kFile)) : Option Bool := s_DiskOK.F (fun y0 => some y0) d_Room d_Files
theorem s_DiskOK_nat {S : Type} (g : Bool → Option S) (d_Room : Int) (d_Files : List (El kFile)) : s_DiskOK.F (fun y0 => g y0) d_Room d_Files = (s_DiskOK d_Room d_Files).bind g := s_DiskOK.F_nat g (fun y0 => some y0) d_Room d_Files
def s_DiskOK.out : Bool → CRes := fun a => ⟨encL SV.enc [.one (.bool)] (a, ()), [encL SC.enc [] ()]⟩
def s_DiskOK.ps : List PS := [.val [none, some (kFile, false)]]
def s_DiskOK.sA : List SA := [.v (.agg [.int .i64, .slv [] kFile])]
def s_DiskOK.fi : FI := FIs s_DiskOK.sA (Bool) (fun t => s_DiskOK t.1.1 t.1.2.1) s_DiskOK.out s_DiskOK.ps
def s_DiskOK.E : Env := ⟨tt, lkF [(59, s_l01In.fi), (120, s_NameOK.fi), (121, s_l03Used.fi)], 67, 0, [], []⟩
def s_DiskOK.sh1 : SK := ⟨[.v (.one (.bptr 0 0)), .v (.one (.int .i64))], [.box [.int .i64, .slv [1] kFile]]⟩
def s_DiskOK.sh1e0 : SK := ⟨[.v (.one (.bptr 0 0))], [.box [.int .i64, .slv [1] kFile]]⟩
def s_DiskOK.sh1r : SK := ⟨[.v (.one (.bool))], []⟩
def s_DiskOK.ko1 : Ex → List CastAt × List Nat
  | .nrm => ([], [])
  | .ret => ([], [2])
  | .ext i => cond (Nat.beq i 0) ([], [1]) ([], [])
def s_DiskOK.G1 (n : Nat) (R : Type) (t : s_DiskOK.sh1.T) (K : Ex → Kp → Option R) : Option R := s_DiskOK.l1 (fun y0 y1 => K (.ext 0) (SK.enc s_DiskOK.sh1e0 (((), ()), ((y0, y1, ()), ())))) (fun y0 => K .ret (SK.enc s_DiskOK.sh1r ((y0, ()), ()))) n t.1.2.1 t.2.1.1 t.2.1.2.1
def s_DiskOK.S1 : Sum := ⟨([], [1, 3]), sumF s_DiskOK.sh1 (s_DiskOK.G1 fuel), s_DiskOK.ko1⟩
theorem s_DiskOK.ok1 (hE : EOk Tryz.prog (s_DiskOK.E)) : SumOk Tryz.prog s_DiskOK.E (cB (cR (cL (cR (cR (bodyOf Tryz.f73)))))) (s_DiskOK.S1) := by
  have hh : HintOk Tryz.prog s_DiskOK.E (cB (cB (cR (cL (cR (cR (bodyOf Tryz.f73))))))) (.a) := HintOk.n1 (Q := True) (by kernel_rfl) trivial
  have h := loopS (kin := ([], [1, 3])) (kout := s_DiskOK.ko1) (sh := s_DiskOK.sh1) (F := s_DiskOK.G1) (ops_ok (hE.gv _)) (by kernel_rfl) hh (fun _ _ _ => rfl) (fun n R t K => by kernel_rfl) fuel
  exact HintOk.n1 (c := (cB (cR (cL (cR (cR (bodyOf Tryz.f73))))))) (h := .s (s_DiskOK.S1)) (P := Tryz.prog) (E := s_DiskOK.E) (by kernel_rfl) h
theorem s_DiskOK.hok (hE : EOk Tryz.prog (s_DiskOK.E)) : HintOk Tryz.prog s_DiskOK.E (bodyOf Tryz.f73) (.n (.a) (.n (.a) (.n (.n (.a) (.b (.s (s_DiskOK.S1)))) (.a)))) := HintOk.n1 (Q := (True) ∧ ((True) ∧ (((True) ∧ (SumOk Tryz.prog s_DiskOK.E (cB (cR (cL (cR (cR (bodyOf Tryz.f73)))))) (s_DiskOK.S1))) ∧ (True)))) (by kernel_rfl) ⟨trivial, ⟨trivial, ⟨⟨trivial, (s_DiskOK.ok1 hE)⟩, trivial⟩⟩⟩
theorem s_DiskOK.hE : EOk Tryz.prog (s_DiskOK.E) := EOk.of ttOk (⟨s_l01In.fok, ⟨s_NameOK.fok, ⟨s_l03Used.fok, trivial⟩⟩⟩)
theorem s_DiskOK.fok : FOk Tryz.prog 73 s_DiskOK.fi :=
  fokS (E := s_DiskOK.E) (wy := ⟨[[none]], [[]], []⟩) (h := (fun gs => .n (.a) (.n (.a) (.n (.n (.a) (.b (.s (s_DiskOK.S1)))) (.a))))) (G := fun t g => s_DiskOK.F (fun y0 => g y0) t.1.1 t.1.2.1) (by kernel_rfl) s_DiskOK.hE Tryz.func73 (by kernel_rfl) rfl (Nat.le_refl _) (fun t => HintOk.n1 (by kernel_rfl) (s_DiskOK.hok s_DiskOK.hE)) (fun t g => s_DiskOK_nat g t.1.1 t.1.2.1) (fun t => by kernel_rfl)
/-! loop.example_g00220_spec.l04Number -/
def s_l04Number.F {R : Type} (kk : Int → Option R) (name : ByteArray) : Option R :=
  cond ((ByteArray.size name : Int) != (3 : Int)) (kk (0 : Int)) (
    grd (gIx (0 : Int) (ByteArray.size name)) <|
    cond ((byteAt name (0 : Int)) != (115 : Int)) (kk (0 : Int)) (
      grd (gIx (1 : Int) (ByteArray.size name)) <|
      (s_l00Digit (byteAt name (1 : Int))).bind fun r =>
      cond (!r) (kk (0 : Int)) (
        grd (gIx (2 : Int) (ByteArray.size name)) <|
        (s_l00Digit (byteAt name (2 : Int))).bind fun r1 =>
        cond (!r1) (kk (0 : Int)) (
          grd (gIx (1 : Int) (ByteArray.size name)) <|
          grd (gIx (2 : Int) (ByteArray.size name)) <|
          kk (IntKind.wrap .i64 ((IntKind.wrap .i64 ((IntKind.wrap .i64 ((10 : Int) * (IntKind.wrap .i64 ((IntKind.wrap .i64 (byteAt name (1 : Int))) - (48 : Int))))) + (IntKind.wrap .i64 (byteAt name (2 : Int))))) - (48 : Int)))))))
theorem s_l04Number.F_nat {R S : Type} (g : R → Option S) (kk : Int → Option R) (name : ByteArray) : s_l04Number.F (fun y0 => (kk y0).bind g) name = (s_l04Number.F kk name).bind g := by
  simp only [s_l04Number.F, grd_bind, cnd_bind, bnd_bind, non_bind]
def s_l04Number (name : ByteArray) : Option Int := s_l04Number.F (fun y0 => some y0) name
theorem s_l04Number_nat {S : Type} (g : Int → Option S) (name : ByteArray) : s_l04Number.F (fun y0 => g y0) name = (s_l04Number name).bind g := s_l04Number.F_nat g (fun y0 => some y0) name
def s_l04Number.out : Int → CRes := fun a => ⟨encL SV.enc [.one (.int .i64)] (a, ()), [encL SC.enc [] ()]⟩
def s_l04Number.ps : List PS := [.val [none]]
def s_l04Number.sA : List SA := [.v (.one (.str))]
def s_l04Number.fi : FI := FIs s_l04Number.sA (Int) (fun t => s_l04Number t.1) s_l04Number.out s_l04Number.ps
def s_l04Number.E : Env := ⟨tt, lkF [(158, s_l00Digit.fi)], 33, 0, [], []⟩
theorem s_l04Number.hok (hE : EOk Tryz.prog (s_l04Number.E)) : HintOk Tryz.prog s_l04Number.E (bodyOf Tryz.f130) (.a) := HintOk.n1 (Q := True) (by kernel_rfl) trivial
theorem s_l04Number.hE : EOk Tryz.prog (s_l04Number.E) := EOk.of ttOk (⟨s_l00Digit.fok, trivial⟩)
theorem s_l04Number.fok : FOk Tryz.prog 130 s_l04Number.fi :=
  fokS (E := s_l04Number.E) (wy := ⟨[[none]], [[]], []⟩) (h := (fun gs => .a)) (G := fun t g => s_l04Number.F (fun y0 => g y0) t.1) (by kernel_rfl) s_l04Number.hE Tryz.func130 (by kernel_rfl) rfl (Nat.le_refl _) (fun t => HintOk.n1 (by kernel_rfl) (s_l04Number.hok s_l04Number.hE)) (fun t g => s_l04Number_nat g t.1) (fun t => by kernel_rfl)
/-! loop.example_g00220_spec.l04Segments -/
def s_l04Segments.l1 {R : Type} (kke0 : List Int → Option R) : Nat → Int → Int → List (El kFile) → List Int → Option R
  | 0, _, _, _, _ => none
  | n + 1, i, d, d1, out =>
    cond (decide (i < (List.length d1 : Int))) (
      grd (gIx i (List.length d1)) <|
      (s_l04Number ((rdE kFile d1 (Int.toNat i)).1)).bind fun r =>
      cond (decide (r > (0 : Int))) (
        grd (gRm (((List.length out) + (List.length [r])) * 8)) <|
        s_l04Segments.l1 kke0 n (IntKind.wrap .i64 (i + (1 : Int))) d d1 (out ++ [r])) (s_l04Segments.l1 kke0 n (IntKind.wrap .i64 (i + (1 : Int))) d d1 out)) (kke0 out)
theorem s_l04Segments.l1_nat {R S : Type} (g : R → Option S) (kke0 : List Int → Option R) : ∀ (n : Nat) (i : Int) (d : Int) (d1 : List (El kFile)) (out : List Int), s_l04Segments.l1 (fun y0 => (kke0 y0).bind g) n i d d1 out = (s_l04Segments.l1 kke0 n i d d1 out).bind g := by
  intro n
  induction n with
  | zero => intros; rfl
  | succ n ih => intros; simp only [s_l04Segments.l1, grd_bind, cnd_bind, bnd_bind, non_bind, ih]
def s_l04Segments.F {R : Type} (kk : List Int → Option R) (d_Room : Int) (d_Files : List (El kFile)) : Option R :=
  s_l04Segments.l1 (fun out => kk out) fuel (0 : Int) d_Room d_Files ([] : List Int)
theorem s_l04Segments.F_nat {R S : Type} (g : R → Option S) (kk : List Int → Option R) (d_Room : Int) (d_Files : List (El kFile)) : s_l04Segments.F (fun y0 => (kk y0).bind g) d_Room d_Files = (s_l04Segments.F kk d_Room d_Files).bind g := by
  simp only [s_l04Segments.F, grd_bind, cnd_bind, bnd_bind, non_bind, ← s_l04Segments.l1_nat]
def s_l04Segments (d_Room : Int) (d_Files : List (El kFile)) : Option (List Int) := s_l04Segments.F (fun y0 => some y0) d_Room d_Files
theorem s_l04Segments_nat {S : Type} (g : (List Int) → Option S) (d_Room : Int) (d_Files : List (El kFile)) : s_l04Segments.F (fun y0 => g y0) d_Room d_Files = (s_l04Segments d_Room d_Files).bind g := s_l04Segments.F_nat g (fun y0 => some y0) d_Room d_Files
def s_l04Segments.out : (List Int) → CRes := fun a => ⟨encL SV.enc [.one (.own [] (.int .i64) true)] (a, ()), [encL SC.enc [] ()]⟩
def s_l04Segments.ps : List PS := [.val [none, some (kFile, false)]]
def s_l04Segments.sA : List SA := [.v (.agg [.int .i64, .slv [] kFile])]
def s_l04Segments.fi : FI := FIs s_l04Segments.sA (List Int) (fun t => s_l04Segments t.1.1 t.1.2.1) s_l04Segments.out s_l04Segments.ps
def s_l04Segments.E : Env := ⟨tt, lkF [(130, s_l04Number.fi)], 28, 0, [], []⟩
def s_l04Segments.sh1 : SK := ⟨[.v (.one (.bptr 0 0)), .v (.one (.slo 1)), .v (.one (.int .i64))], [.box [.int .i64, .slv [1] kFile], .arr (.int .i64) [] true]⟩
def s_l04Segments.sh1e0 : SK := ⟨[.v (.one (.slo 0))], [.arr (.int .i64) [] true]⟩
def s_l04Segments.ko1 : Ex → List CastAt × List Nat
  | .nrm => ([], [])
  | .ret => ([], [])
  | .ext i => cond (Nat.beq i 0) ([], [3]) ([], [])
def s_l04Segments.G1 (n : Nat) (R : Type) (t : s_l04Segments.sh1.T) (K : Ex → Kp → Option R) : Option R := s_l04Segments.l1 (fun y0 => K (.ext 0) (SK.enc s_l04Segments.sh1e0 (((), ()), (y0, ())))) n t.1.2.2.1 t.2.1.1 t.2.1.2.1 t.2.2.1
def s_l04Segments.S1 : Sum := ⟨([], [1, 3, 4]), sumF s_l04Segments.sh1 (s_l04Segments.G1 fuel), s_l04Segments.ko1⟩
theorem s_l04Segments.ok1 (hE : EOk Tryz.prog (s_l04Segments.E)) : SumOk Tryz.prog s_l04Segments.E (cB (cR (cL (cR (cR (bodyOf Tryz.f95)))))) (s_l04Segments.S1) := by
  have hh : HintOk Tryz.prog s_l04Segments.E (cB (cB (cR (cL (cR (cR (bodyOf Tryz.f95))))))) (.a) := HintOk.n1 (Q := True) (by kernel_rfl) trivial
  have h := loopS (kin := ([], [1, 3, 4])) (kout := s_l04Segments.ko1) (sh := s_l04Segments.sh1) (F := s_l04Segments.G1) (ops_ok (hE.gv _)) (by kernel_rfl) hh (fun _ _ _ => rfl) (fun n R t K => by kernel_rfl) fuel
  exact HintOk.n1 (c := (cB (cR (cL (cR (cR (bodyOf Tryz.f95))))))) (h := .s (s_l04Segments.S1)) (P := Tryz.prog) (E := s_l04Segments.E) (by kernel_rfl) h
theorem s_l04Segments.hok (hE : EOk Tryz.prog (s_l04Segments.E)) : HintOk Tryz.prog s_l04Segments.E (bodyOf Tryz.f95) (.n (.a) (.n (.a) (.n (.n (.a) (.b (.s (s_l04Segments.S1)))) (.a)))) := HintOk.n1 (Q := (True) ∧ ((True) ∧ (((True) ∧ (SumOk Tryz.prog s_l04Segments.E (cB (cR (cL (cR (cR (bodyOf Tryz.f95)))))) (s_l04Segments.S1))) ∧ (True)))) (by kernel_rfl) ⟨trivial, ⟨trivial, ⟨⟨trivial, (s_l04Segments.ok1 hE)⟩, trivial⟩⟩⟩
theorem s_l04Segments.hE : EOk Tryz.prog (s_l04Segments.E) := EOk.of ttOk (⟨s_l04Number.fok, trivial⟩)
theorem s_l04Segments.fok : FOk Tryz.prog 95 s_l04Segments.fi :=
  fokS (E := s_l04Segments.E) (wy := ⟨[[some ((.int .i64), true)]], [[]], []⟩) (h := (fun gs => .n (.a) (.n (.a) (.n (.n (.a) (.b (.s (s_l04Segments.S1)))) (.a))))) (G := fun t g => s_l04Segments.F (fun y0 => g y0) t.1.1 t.1.2.1) (by kernel_rfl) s_l04Segments.hE Tryz.func95 (by kernel_rfl) rfl (Nat.le_refl _) (fun t => HintOk.n1 (by kernel_rfl) (s_l04Segments.hok s_l04Segments.hE)) (fun t g => s_l04Segments_nat g t.1.1 t.1.2.1) (fun t => by kernel_rfl)
/-! loop.example_g00220_spec.l00Digits -/
def s_l00Digits.F {R : Type} (rc : Int → Option ByteArray) (kk : ByteArray → Option R) (n_ : Int) : Option R :=
  cond (n_ == (-9223372036854775808 : Int)) (
    kk (⟨#[45, 57, 50, 50, 51, 51, 55, 50, 48, 51, 54, 56, 53, 52, 55, 55, 53, 56, 48, 56]⟩ : ByteArray)) (
    cond (decide (n_ < (0 : Int))) (
      (rc (IntKind.wrap .i64 (0 - n_))).bind fun r =>
      grd (gCat (⟨#[45]⟩ : ByteArray) r) <|
      kk ((⟨#[45]⟩ : ByteArray) ++ r)) (
      cond (decide (n_ < (10 : Int))) (kk (strL [IntKind.wrap .u8 (IntKind.wrap .i64 ((48 : Int) + n_))])) (
        grd (gNz (10 : Int)) <|
        (rc (IntKind.wrap .i64 (Int.tdiv n_ (10 : Int)))).bind fun r1 =>
        grd (gNz (10 : Int)) <|
        grd (gCat r1 (strL [IntKind.wrap .u8 (IntKind.wrap .i64 ((48 : Int) + (Int.tmod n_ (10 : Int))))])) <|
        kk (r1 ++ (strL [IntKind.wrap .u8 (IntKind.wrap .i64 ((48 : Int) + (Int.tmod n_ (10 : Int))))])))))
theorem s_l00Digits.F_nat {R S : Type} (g : R → Option S) (rc : Int → Option ByteArray) (kk : ByteArray → Option R) (n_ : Int) : s_l00Digits.F rc (fun y0 => (kk y0).bind g) n_ = (s_l00Digits.F rc kk n_).bind g := by
  simp only [s_l00Digits.F, grd_bind, cnd_bind, bnd_bind, non_bind]
def s_l00Digits : Nat → Int → Option ByteArray
  | 0, _ => none
  | fu + 1, n_ => s_l00Digits.F (s_l00Digits fu) (fun y0 => some y0) n_
theorem s_l00Digits_nat {S : Type} (fu : Nat) (g : ByteArray → Option S) (n_ : Int) : s_l00Digits.F (s_l00Digits fu) (fun y0 => g y0) n_ = (s_l00Digits (fu + 1) n_).bind g := s_l00Digits.F_nat g (s_l00Digits fu) (fun y0 => some y0) n_
def s_l00Digits.out : ByteArray → CRes := fun a => ⟨encL SV.enc [.one (.str)] (a, ()), [encL SC.enc [] ()]⟩
def s_l00Digits.ps : List PS := [.val [none]]
def s_l00Digits.sA : List SA := [.v (.one (.int .i64))]
def s_l00Digits.fi (fu : Nat) : FI := FIs s_l00Digits.sA (ByteArray) (fun t => s_l00Digits fu t.1) s_l00Digits.out s_l00Digits.ps
def s_l00Digits.E (fu : Nat) : Env := ⟨tt, lkF [(147, s_l00Digits.fi fu)], 28, 0, [], []⟩
theorem s_l00Digits.hok (fu : Nat) (hE : EOk Tryz.prog (s_l00Digits.E fu)) : HintOk Tryz.prog (s_l00Digits.E fu) (bodyOf Tryz.f147) (.a) := HintOk.n1 (Q := True) (by kernel_rfl) trivial
theorem s_l00Digits.fok0 : FOk Tryz.prog 147 (s_l00Digits.fi 0) := FOk.zero ⟨_, _, Tryz.func147, by kernel_rfl, rfl⟩ (fun _ => rfl)
theorem s_l00Digits.fok1 (fu : Nat) (ih : FOk Tryz.prog 147 (s_l00Digits.fi fu)) : FOk Tryz.prog 147 (s_l00Digits.fi (fu + 1)) := by
  have hE : EOk Tryz.prog (s_l00Digits.E fu) := EOk.of ttOk (⟨ih, trivial⟩)
  exact fokS (E := s_l00Digits.E fu) (wy := ⟨[[none]], [[]], []⟩) (h := (fun gs => .a)) (G := fun t g => s_l00Digits.F (s_l00Digits fu) (fun y0 => g y0) t.1) (by kernel_rfl) hE Tryz.func147 (by kernel_rfl) rfl (Nat.le_refl _) (fun t => HintOk.n1 (by kernel_rfl) (s_l00Digits.hok fu hE)) (fun t g => s_l00Digits_nat fu g t.1) (fun t => by kernel_rfl)
theorem s_l00Digits.fok (fu : Nat) : FOk Tryz.prog 147 (s_l00Digits.fi fu) := Nat.rec s_l00Digits.fok0 s_l00Digits.fok1 fu
/-! loop.example_g00220_spec.l04Name -/
def s_l04Name.F {R : Type} (kk : ByteArray → Option R) (n_ : Int) : Option R :=
  grd (gNz (10 : Int)) <|
  (s_l00Digits fuel (IntKind.wrap .i64 (Int.tdiv n_ (10 : Int)))).bind fun r =>
  grd (gCat (⟨#[115]⟩ : ByteArray) r) <|
  grd (gNz (10 : Int)) <|
  (s_l00Digits fuel (Int.tmod n_ (10 : Int))).bind fun r1 =>
  grd (gCat ((⟨#[115]⟩ : ByteArray) ++ r) r1) <|
  kk (((⟨#[115]⟩ : ByteArray) ++ r) ++ r1)
theorem s_l04Name.F_nat {R S : Type} (g : R → Option S) (kk : ByteArray → Option R) (n_ : Int) : s_l04Name.F (fun y0 => (kk y0).bind g) n_ = (s_l04Name.F kk n_).bind g := by
  simp only [s_l04Name.F, grd_bind, cnd_bind, bnd_bind, non_bind]
def s_l04Name (n_ : Int) : Option ByteArray := s_l04Name.F (fun y0 => some y0) n_
theorem s_l04Name_nat {S : Type} (g : ByteArray → Option S) (n_ : Int) : s_l04Name.F (fun y0 => g y0) n_ = (s_l04Name n_).bind g := s_l04Name.F_nat g (fun y0 => some y0) n_
def s_l04Name.out : ByteArray → CRes := fun a => ⟨encL SV.enc [.one (.str)] (a, ()), [encL SC.enc [] ()]⟩
def s_l04Name.ps : List PS := [.val [none]]
def s_l04Name.sA : List SA := [.v (.one (.int .i64))]
def s_l04Name.fi : FI := FIs s_l04Name.sA (ByteArray) (fun t => s_l04Name t.1) s_l04Name.out s_l04Name.ps
def s_l04Name.E : Env := ⟨tt, lkF [(147, s_l00Digits.fi fuel)], 11, 0, [], []⟩
theorem s_l04Name.hok (hE : EOk Tryz.prog (s_l04Name.E)) : HintOk Tryz.prog s_l04Name.E (bodyOf Tryz.f99) (.a) := HintOk.n1 (Q := True) (by kernel_rfl) trivial
theorem s_l04Name.hE : EOk Tryz.prog (s_l04Name.E) := EOk.of ttOk (⟨s_l00Digits.fok fuel, trivial⟩)
theorem s_l04Name.fok : FOk Tryz.prog 99 s_l04Name.fi :=
  fokS (E := s_l04Name.E) (wy := ⟨[[none]], [[]], []⟩) (h := (fun gs => .a)) (G := fun t g => s_l04Name.F (fun y0 => g y0) t.1) (by kernel_rfl) s_l04Name.hE Tryz.func99 (by kernel_rfl) rfl (Nat.le_refl _) (fun t => HintOk.n1 (by kernel_rfl) (s_l04Name.hok s_l04Name.hE)) (fun t g => s_l04Name_nat g t.1) (fun t => by kernel_rfl)
/-! loop.example_g00220_spec.l03Find -/
def s_l03Find.l1 {R : Type} (kke0 : Option R) (kkr : Int → Option R) : Nat → ByteArray → Int → Int → List (El kFile) → Option R
  | 0, _, _, _, _ => none
  | n + 1, name, i, d, d1 =>
    cond (decide (i < (List.length d1 : Int))) (
      grd (gIx i (List.length d1)) <|
      cond (sEq (rdE kFile d1 (Int.toNat i)).1 name) (kkr i) (s_l03Find.l1 kke0 kkr n name (IntKind.wrap .i64 (i + (1 : Int))) d d1)) (kke0)
theorem s_l03Find.l1_nat {R S : Type} (g : R → Option S) (kke0 : Option R) (kkr : Int → Option R) : ∀ (n : Nat) (name : ByteArray) (i : Int) (d : Int) (d1 : List (El kFile)), s_l03Find.l1 (kke0.bind g) (fun y0 => (kkr y0).bind g) n name i d d1 = (s_l03Find.l1 kke0 kkr n name i d d1).bind g := by
  intro n
  induction n with
  | zero => intros; rfl
  | succ n ih => intros; simp only [s_l03Find.l1, grd_bind, cnd_bind, bnd_bind, non_bind, ih]
def s_l03Find.F {R : Type} (kk : Int → Option R) (d_Room : Int) (d_Files : List (El kFile)) (name : ByteArray) : Option R :=
  s_l03Find.l1 (kk (-1 : Int)) (fun i => kk i) fuel name (0 : Int) d_Room d_Files
theorem s_l03Find.F_nat {R S : Type} (g : R → Option S) (kk : Int → Option R) (d_Room : Int) (d_Files : List (El kFile)) (name : ByteArray) : s_l03Find.F (fun y0 => (kk y0).bind g) d_Room d_Files name = (s_l03Find.F kk d_Room d_Files name).bind g := by
  simp only [s_l03Find.F, grd_bind, cnd_bind, bnd_bind, non_bind, ← s_l03Find.l1_nat]
def s_l03Find (d_Room : Int) (d_Files : List (El kFile)) (name : ByteArray) : Option Int := s_l03Find.F (fun y0 => some y0) d_Room d_Files name
theorem s_l03Find_nat {S : Type} (g : Int → Option S) (d_Room : Int) (d_Files : List (El kFile)) (name : ByteArray) : s_l03Find.F (fun y0 => g y0) d_Room d_Files name = (s_l03Find d_Room d_Files name).bind g := s_l03Find.F_nat g (fun y0 => some y0) d_Room d_Files name
def s_l03Find.out : Int → CRes := fun a => ⟨encL SV.enc [.one (.int .i64)] (a, ()), [encL SC.enc [] (), encL SC.enc [] ()]⟩
def s_l03Find.ps : List PS := [.val [none, some (kFile, false)], .val [none]]
def s_l03Find.sA : List SA := [.v (.agg [.int .i64, .slv [] kFile]), .v (.one (.str))]
def s_l03Find.fi : FI := FIs s_l03Find.sA (Int) (fun t => s_l03Find t.1.1 t.1.2.1 t.2.1) s_l03Find.out s_l03Find.ps
def s_l03Find.E : Env := ⟨tt, lkF [], 22, 0, [], []⟩
def s_l03Find.sh1 : SK := ⟨[.v (.one (.str)), .v (.one (.bptr 0 0)), .v (.one (.int .i64))], [.box [.int .i64, .slv [1] kFile]]⟩
def s_l03Find.sh1e0 : SK := ⟨[], []⟩
def s_l03Find.sh1r : SK := ⟨[.v (.one (.int .i64))], []⟩
def s_l03Find.ko1 : Ex → List CastAt × List Nat
  | .nrm => ([], [])
  | .ret => ([], [4])
  | .ext i => cond (Nat.beq i 0) ([], []) ([], [])
def s_l03Find.G1 (n : Nat) (R : Type) (t : s_l03Find.sh1.T) (K : Ex → Kp → Option R) : Option R := s_l03Find.l1 (K (.ext 0) (SK.enc s_l03Find.sh1e0 ((), ()))) (fun y0 => K .ret (SK.enc s_l03Find.sh1r ((y0, ()), ()))) n t.1.1 t.1.2.2.1 t.2.1.1 t.2.1.2.1
def s_l03Find.S1 : Sum := ⟨([], [1, 2, 5]), sumF s_l03Find.sh1 (s_l03Find.G1 fuel), s_l03Find.ko1⟩
theorem s_l03Find.ok1 (hE : EOk Tryz.prog (s_l03Find.E)) : SumOk Tryz.prog s_l03Find.E (cB (cR (cL (cR (bodyOf Tryz.f124))))) (s_l03Find.S1) := by
  have hh : HintOk Tryz.prog s_l03Find.E (cB (cB (cR (cL (cR (bodyOf Tryz.f124)))))) (.a) := HintOk.n1 (Q := True) (by kernel_rfl) trivial
  have h := loopS (kin := ([], [1, 2, 5])) (kout := s_l03Find.ko1) (sh := s_l03Find.sh1) (F := s_l03Find.G1) (ops_ok (hE.gv _)) (by kernel_rfl) hh (fun _ _ _ => rfl) (fun n R t K => by kernel_rfl) fuel
  exact HintOk.n1 (c := (cB (cR (cL (cR (bodyOf Tryz.f124)))))) (h := .s (s_l03Find.S1)) (P := Tryz.prog) (E := s_l03Find.E) (by kernel_rfl) h
theorem s_l03Find.hok (hE : EOk Tryz.prog (s_l03Find.E)) : HintOk Tryz.prog s_l03Find.E (bodyOf Tryz.f124) (.n (.a) (.n (.n (.a) (.b (.s (s_l03Find.S1)))) (.a))) := HintOk.n1 (Q := (True) ∧ (((True) ∧ (SumOk Tryz.prog s_l03Find.E (cB (cR (cL (cR (bodyOf Tryz.f124))))) (s_l03Find.S1))) ∧ (True))) (by kernel_rfl) ⟨trivial, ⟨⟨trivial, (s_l03Find.ok1 hE)⟩, trivial⟩⟩
theorem s_l03Find.hE : EOk Tryz.prog (s_l03Find.E) := EOk.of ttOk (trivial)
theorem s_l03Find.fok : FOk Tryz.prog 124 s_l03Find.fi :=
  fokS (E := s_l03Find.E) (wy := ⟨[[none]], [[], []], []⟩) (h := (fun gs => .n (.a) (.n (.n (.a) (.b (.s (s_l03Find.S1)))) (.a)))) (G := fun t g => s_l03Find.F (fun y0 => g y0) t.1.1 t.1.2.1 t.2.1) (by kernel_rfl) s_l03Find.hE Tryz.func124 (by kernel_rfl) rfl (Nat.le_refl _) (fun t => HintOk.n1 (by kernel_rfl) (s_l03Find.hok s_l03Find.hE)) (fun t g => s_l03Find_nat g t.1.1 t.1.2.1 t.2.1) (fun t => by kernel_rfl)
/-! loop.example_g00220_spec.l04Data -/
def s_l04Data.F {R : Type} (kk : ByteArray → Option R) (d_Room : Int) (d_Files : List (El kFile)) (n_ : Int) : Option R :=
  (s_l04Name n_).bind fun r =>
  (s_l03Find d_Room d_Files r).bind fun r1 =>
  grd (gIx r1 (List.length d_Files)) <|
  kk (rdE kFile d_Files (Int.toNat r1)).2.1
theorem s_l04Data.F_nat {R S : Type} (g : R → Option S) (kk : ByteArray → Option R) (d_Room : Int) (d_Files : List (El kFile)) (n_ : Int) : s_l04Data.F (fun y0 => (kk y0).bind g) d_Room d_Files n_ = (s_l04Data.F kk d_Room d_Files n_).bind g := by
  simp only [s_l04Data.F, grd_bind, cnd_bind, bnd_bind, non_bind]
def s_l04Data (d_Room : Int) (d_Files : List (El kFile)) (n_ : Int) : Option ByteArray := s_l04Data.F (fun y0 => some y0) d_Room d_Files n_
theorem s_l04Data_nat {S : Type} (g : ByteArray → Option S) (d_Room : Int) (d_Files : List (El kFile)) (n_ : Int) : s_l04Data.F (fun y0 => g y0) d_Room d_Files n_ = (s_l04Data d_Room d_Files n_).bind g := s_l04Data.F_nat g (fun y0 => some y0) d_Room d_Files n_
def s_l04Data.out : ByteArray → CRes := fun a => ⟨encL SV.enc [.one (.str)] (a, ()), [encL SC.enc [] (), encL SC.enc [] ()]⟩
def s_l04Data.ps : List PS := [.val [none, some (kFile, false)], .val [none]]
def s_l04Data.sA : List SA := [.v (.agg [.int .i64, .slv [] kFile]), .v (.one (.int .i64))]
def s_l04Data.fi : FI := FIs s_l04Data.sA (ByteArray) (fun t => s_l04Data t.1.1 t.1.2.1 t.2.1) s_l04Data.out s_l04Data.ps
def s_l04Data.E : Env := ⟨tt, lkF [(99, s_l04Name.fi), (124, s_l03Find.fi)], 14, 0, [], []⟩
theorem s_l04Data.hok (hE : EOk Tryz.prog (s_l04Data.E)) : HintOk Tryz.prog s_l04Data.E (bodyOf Tryz.f96) (.a) := HintOk.n1 (Q := True) (by kernel_rfl) trivial
theorem s_l04Data.hE : EOk Tryz.prog (s_l04Data.E) := EOk.of ttOk (⟨s_l04Name.fok, ⟨s_l03Find.fok, trivial⟩⟩)
theorem s_l04Data.fok : FOk Tryz.prog 96 s_l04Data.fi :=
  fokS (E := s_l04Data.E) (wy := ⟨[[none]], [[], []], []⟩) (h := (fun gs => .a)) (G := fun t g => s_l04Data.F (fun y0 => g y0) t.1.1 t.1.2.1 t.2.1) (by kernel_rfl) s_l04Data.hE Tryz.func96 (by kernel_rfl) rfl (Nat.le_refl _) (fun t => HintOk.n1 (by kernel_rfl) (s_l04Data.hok s_l04Data.hE)) (fun t g => s_l04Data_nat g t.1.1 t.1.2.1 t.2.1) (fun t => by kernel_rfl)
/-! loop.example_g00220_spec.l02Four -/
def s_l02Four.F {R : Type} (kk : List Int → Option R) (n_ : Int) : Option R :=
  grd (gSh (24 : Int)) <|
  grd (gSh (16 : Int)) <|
  grd (gSh (8 : Int)) <|
  kk [IntKind.wrap .u8 (iShr .i64 n_ (24 : Int)), IntKind.wrap .u8 (iShr .i64 n_ (16 : Int)), IntKind.wrap .u8 (iShr .i64 n_ (8 : Int)), IntKind.wrap .u8 n_]
theorem s_l02Four.F_nat {R S : Type} (g : R → Option S) (kk : List Int → Option R) (n_ : Int) : s_l02Four.F (fun y0 => (kk y0).bind g) n_ = (s_l02Four.F kk n_).bind g := by
  simp only [s_l02Four.F, grd_bind, cnd_bind, bnd_bind, non_bind]
def s_l02Four (n_ : Int) : Option (List Int) := s_l02Four.F (fun y0 => some y0) n_
theorem s_l02Four_nat {S : Type} (g : (List Int) → Option S) (n_ : Int) : s_l02Four.F (fun y0 => g y0) n_ = (s_l02Four n_).bind g := s_l02Four.F_nat g (fun y0 => some y0) n_
def s_l02Four.out : (List Int) → CRes := fun a => ⟨encL SV.enc [.one (.own [] (.int .u8) true)] (a, ()), [encL SC.enc [] ()]⟩
def s_l02Four.ps : List PS := [.val [none]]
def s_l02Four.sA : List SA := [.v (.one (.int .i64))]
def s_l02Four.fi : FI := FIs s_l02Four.sA (List Int) (fun t => s_l02Four t.1) s_l02Four.out s_l02Four.ps
def s_l02Four.E : Env := ⟨tt, lkF [], 15, 0, [], []⟩
theorem s_l02Four.hok (hE : EOk Tryz.prog (s_l02Four.E)) : HintOk Tryz.prog s_l02Four.E (bodyOf Tryz.f133) (.a) := HintOk.n1 (Q := True) (by kernel_rfl) trivial
theorem s_l02Four.hE : EOk Tryz.prog (s_l02Four.E) := EOk.of ttOk (trivial)
theorem s_l02Four.fok : FOk Tryz.prog 133 s_l02Four.fi :=
  fokS (E := s_l02Four.E) (wy := ⟨[[some ((.int .u8), true)]], [[]], []⟩) (h := (fun gs => .a)) (G := fun t g => s_l02Four.F (fun y0 => g y0) t.1) (by kernel_rfl) s_l02Four.hE Tryz.func133 (by kernel_rfl) rfl (Nat.le_refl _) (fun t => HintOk.n1 (by kernel_rfl) (s_l02Four.hok s_l02Four.hE)) (fun t g => s_l02Four_nat g t.1) (fun t => by kernel_rfl)
/-! loop.example_g00220_spec.l02Two -/
def s_l02Two.F {R : Type} (kk : List Int → Option R) (n_ : Int) : Option R :=
  grd (gNz (256 : Int)) <|
  kk [IntKind.wrap .u8 (IntKind.wrap .i64 (Int.tdiv n_ (256 : Int))), IntKind.wrap .u8 n_]
theorem s_l02Two.F_nat {R S : Type} (g : R → Option S) (kk : List Int → Option R) (n_ : Int) : s_l02Two.F (fun y0 => (kk y0).bind g) n_ = (s_l02Two.F kk n_).bind g := by
  simp only [s_l02Two.F, grd_bind, cnd_bind, bnd_bind, non_bind]
def s_l02Two (n_ : Int) : Option (List Int) := s_l02Two.F (fun y0 => some y0) n_
theorem s_l02Two_nat {S : Type} (g : (List Int) → Option S) (n_ : Int) : s_l02Two.F (fun y0 => g y0) n_ = (s_l02Two n_).bind g := s_l02Two.F_nat g (fun y0 => some y0) n_
def s_l02Two.out : (List Int) → CRes := fun a => ⟨encL SV.enc [.one (.own [] (.int .u8) true)] (a, ()), [encL SC.enc [] ()]⟩
def s_l02Two.ps : List PS := [.val [none]]
def s_l02Two.sA : List SA := [.v (.one (.int .i64))]
def s_l02Two.fi : FI := FIs s_l02Two.sA (List Int) (fun t => s_l02Two t.1) s_l02Two.out s_l02Two.ps
def s_l02Two.E : Env := ⟨tt, lkF [], 9, 0, [], []⟩
theorem s_l02Two.hok (hE : EOk Tryz.prog (s_l02Two.E)) : HintOk Tryz.prog s_l02Two.E (bodyOf Tryz.f150) (.a) := HintOk.n1 (Q := True) (by kernel_rfl) trivial
theorem s_l02Two.hE : EOk Tryz.prog (s_l02Two.E) := EOk.of ttOk (trivial)
theorem s_l02Two.fok : FOk Tryz.prog 150 s_l02Two.fi :=
  fokS (E := s_l02Two.E) (wy := ⟨[[some ((.int .u8), true)]], [[]], []⟩) (h := (fun gs => .a)) (G := fun t g => s_l02Two.F (fun y0 => g y0) t.1) (by kernel_rfl) s_l02Two.hE Tryz.func150 (by kernel_rfl) rfl (Nat.le_refl _) (fun t => HintOk.n1 (by kernel_rfl) (s_l02Two.hok s_l02Two.hE)) (fun t g => s_l02Two_nat g t.1) (fun t => by kernel_rfl)
/-! loop.example_g00220_spec.l01Check -/
def s_l01Check.l1 {R : Type} (kke2 : List Int → Int → Int → Option R) : Nat → List Int → Int → Int → Int → Option R
  | 0, _, _, _, _ => none
  | n + 1, b, n_, i, k_ =>
    cond (decide (k_ < (8 : Int))) (
      grd (gNz (2 : Int)) <|
      cond ((Int.tmod n_ (2 : Int)) == (1 : Int)) (
        grd (gNz (2 : Int)) <|
        s_l01Check.l1 kke2 n b (iXor .i64 (IntKind.wrap .i64 (Int.tdiv n_ (2 : Int))) (3988292384 : Int)) i (IntKind.wrap .i64 (k_ + (1 : Int)))) (
        grd (gNz (2 : Int)) <|
        s_l01Check.l1 kke2 n b (IntKind.wrap .i64 (Int.tdiv n_ (2 : Int))) i (IntKind.wrap .i64 (k_ + (1 : Int))))) (kke2 b n_ i)
theorem s_l01Check.l1_nat {R S : Type} (g : R → Option S) (kke2 : List Int → Int → Int → Option R) : ∀ (n : Nat) (b : List Int) (n_ : Int) (i : Int) (k_ : Int), s_l01Check.l1 (fun y0 y1 y2 => (kke2 y0 y1 y2).bind g) n b n_ i k_ = (s_l01Check.l1 kke2 n b n_ i k_).bind g := by
  intro n
  induction n with
  | zero => intros; rfl
  | succ n ih => intros; simp only [s_l01Check.l1, grd_bind, cnd_bind, bnd_bind, non_bind, ih]
def s_l01Check.l2 {R : Type} (kke0 : Int → Option R) : Nat → List Int → Int → Int → Option R
  | 0, _, _, _ => none
  | n + 1, b, n_, i =>
    cond (decide (i < (List.length b : Int))) (
      grd (gIx i (List.length b)) <|
      s_l01Check.l1 (fun b1 n_1 i1 => s_l01Check.l2 kke0 n b1 n_1 (IntKind.wrap .i64 (i1 + (1 : Int)))) fuel b (iXor .i64 n_ (IntKind.wrap .i64 (rdE (.int .u8 : Kd) b (Int.toNat i)))) i (0 : Int)) (kke0 n_)
theorem s_l01Check.l2_nat {R S : Type} (g : R → Option S) (kke0 : Int → Option R) : ∀ (n : Nat) (b : List Int) (n_ : Int) (i : Int), s_l01Check.l2 (fun y0 => (kke0 y0).bind g) n b n_ i = (s_l01Check.l2 kke0 n b n_ i).bind g := by
  intro n
  induction n with
  | zero => intros; rfl
  | succ n ih => intros; simp only [s_l01Check.l2, grd_bind, cnd_bind, bnd_bind, non_bind, ← s_l01Check.l1_nat, ih]
def s_l01Check.F {R : Type} (kk : Int → Option R) (b : List Int) : Option R :=
  s_l01Check.l2 (fun n_ => kk (iXor .i64 n_ (4294967295 : Int))) fuel b (4294967295 : Int) (0 : Int)
theorem s_l01Check.F_nat {R S : Type} (g : R → Option S) (kk : Int → Option R) (b : List Int) : s_l01Check.F (fun y0 => (kk y0).bind g) b = (s_l01Check.F kk b).bind g := by
  simp only [s_l01Check.F, grd_bind, cnd_bind, bnd_bind, non_bind, ← s_l01Check.l2_nat]
def s_l01Check (b : List Int) : Option Int := s_l01Check.F (fun y0 => some y0) b
theorem s_l01Check_nat {S : Type} (g : Int → Option S) (b : List Int) : s_l01Check.F (fun y0 => g y0) b = (s_l01Check b).bind g := s_l01Check.F_nat g (fun y0 => some y0) b
def s_l01Check.out : Int → CRes := fun a => ⟨encL SV.enc [.one (.int .i64)] (a, ()), [encL SC.enc [] ()]⟩
def s_l01Check.ps : List PS := [.val [some ((.int .u8), false)]]
def s_l01Check.sA : List SA := [.v (.one (.slv [] (.int .u8)))]
def s_l01Check.fi : FI := FIs s_l01Check.sA (Int) (fun t => s_l01Check t.1) s_l01Check.out s_l01Check.ps
def s_l01Check.E : Env := ⟨tt, lkF [], 33, 0, [], []⟩
def s_l01Check.sh1 : SK := ⟨[.v (.one (.slv [1] (.int .u8))), .v (.one (.int .i64)), .v (.one (.int .i64)), .v (.one (.int .i64))], []⟩
def s_l01Check.sh1e2 : SK := ⟨[.v (.one (.slv [1] (.int .u8))), .v (.one (.int .i64)), .v (.one (.int .i64))], []⟩
def s_l01Check.ko1 : Ex → List CastAt × List Nat
  | .nrm => ([], [])
  | .ret => ([], [])
  | .ext i => cond (Nat.beq i 2) ([], [0, 3, 4]) ([], [])
def s_l01Check.G1 (n : Nat) (R : Type) (t : s_l01Check.sh1.T) (K : Ex → Kp → Option R) : Option R := s_l01Check.l1 (fun y0 y1 y2 => K (.ext 2) (SK.enc s_l01Check.sh1e2 ((y0, y1, y2, ()), ()))) n t.1.1 t.1.2.1 t.1.2.2.1 t.1.2.2.2.1
def s_l01Check.S1 : Sum := ⟨([], [0, 3, 4, 5]), sumF s_l01Check.sh1 (s_l01Check.G1 fuel), s_l01Check.ko1⟩
theorem s_l01Check.ok1 (hE : EOk Tryz.prog (s_l01Check.E)) : SumOk Tryz.prog s_l01Check.E (cB (cR (cR (cB (cL (cR (cB (cB (cR (cL (cR (cR (bodyOf Tryz.f151))))))))))))) (s_l01Check.S1) := by
  have hh : HintOk Tryz.prog s_l01Check.E (cB (cB (cR (cR (cB (cL (cR (cB (cB (cR (cL (cR (cR (bodyOf Tryz.f151)))))))))))))) (.a) := HintOk.n1 (Q := True) (by kernel_rfl) trivial
  have h := loopS (kin := ([], [0, 3, 4, 5])) (kout := s_l01Check.ko1) (sh := s_l01Check.sh1) (F := s_l01Check.G1) (ops_ok (hE.gv _)) (by kernel_rfl) hh (fun _ _ _ => rfl) (fun n R t K => by kernel_rfl) fuel
  exact HintOk.n1 (c := (cB (cR (cR (cB (cL (cR (cB (cB (cR (cL (cR (cR (bodyOf Tryz.f151)))))))))))))) (h := .s (s_l01Check.S1)) (P := Tryz.prog) (E := s_l01Check.E) (by kernel_rfl) h
def s_l01Check.sh2 : SK := ⟨[.v (.one (.slv [1] (.int .u8))), .v (.one (.int .i64)), .v (.one (.int .i64))], []⟩
def s_l01Check.sh2e0 : SK := ⟨[.v (.one (.int .i64))], []⟩
def s_l01Check.ko2 : Ex → List CastAt × List Nat
  | .nrm => ([], [])
  | .ret => ([], [])
  | .ext i => cond (Nat.beq i 0) ([], [3]) ([], [])
def s_l01Check.G2 (n : Nat) (R : Type) (t : s_l01Check.sh2.T) (K : Ex → Kp → Option R) : Option R := s_l01Check.l2 (fun y0 => K (.ext 0) (SK.enc s_l01Check.sh2e0 ((y0, ()), ()))) n t.1.1 t.1.2.1 t.1.2.2.1
def s_l01Check.S2 : Sum := ⟨([], [0, 3, 4]), sumF s_l01Check.sh2 (s_l01Check.G2 fuel), s_l01Check.ko2⟩
theorem s_l01Check.ok2 (hE : EOk Tryz.prog (s_l01Check.E)) : SumOk Tryz.prog s_l01Check.E (cB (cR (cL (cR (cR (bodyOf Tryz.f151)))))) (s_l01Check.S2) := by
  have hh : HintOk Tryz.prog s_l01Check.E (cB (cB (cR (cL (cR (cR (bodyOf Tryz.f151))))))) (.n (.a) (.n (.b (.n (.a) (.n (.a) (.b (.s (s_l01Check.S1)))))) (.a))) := HintOk.n1 (Q := (True) ∧ (((True) ∧ ((True) ∧ (SumOk Tryz.prog s_l01Check.E (cB (cR (cR (cB (cL (cR (cB (cB (cR (cL (cR (cR (bodyOf Tryz.f151))))))))))))) (s_l01Check.S1)))) ∧ (True))) (by kernel_rfl) ⟨trivial, ⟨⟨trivial, ⟨trivial, (s_l01Check.ok1 hE)⟩⟩, trivial⟩⟩
  have h := loopS (kin := ([], [0, 3, 4])) (kout := s_l01Check.ko2) (sh := s_l01Check.sh2) (F := s_l01Check.G2) (ops_ok (hE.gv _)) (by kernel_rfl) hh (fun _ _ _ => rfl) (fun n R t K => by kernel_rfl) fuel
  exact HintOk.n1 (c := (cB (cR (cL (cR (cR (bodyOf Tryz.f151))))))) (h := .s (s_l01Check.S2)) (P := Tryz.prog) (E := s_l01Check.E) (by kernel_rfl) h
theorem s_l01Check.hok (hE : EOk Tryz.prog (s_l01Check.E)) : HintOk Tryz.prog s_l01Check.E (bodyOf Tryz.f151) (.n (.a) (.n (.a) (.n (.n (.a) (.b (.s (s_l01Check.S2)))) (.a)))) := HintOk.n1 (Q := (True) ∧ ((True) ∧ (((True) ∧ (SumOk Tryz.prog s_l01Check.E (cB (cR (cL (cR (cR (bodyOf Tryz.f151)))))) (s_l01Check.S2))) ∧ (True)))) (by kernel_rfl) ⟨trivial, ⟨trivial, ⟨⟨trivial, (s_l01Check.ok2 hE)⟩, trivial⟩⟩⟩
theorem s_l01Check.hE : EOk Tryz.prog (s_l01Check.E) := EOk.of ttOk (trivial)
theorem s_l01Check.fok : FOk Tryz.prog 151 s_l01Check.fi :=
  fokS (E := s_l01Check.E) (wy := ⟨[[none]], [[]], []⟩) (h := (fun gs => .n (.a) (.n (.a) (.n (.n (.a) (.b (.s (s_l01Check.S2)))) (.a))))) (G := fun t g => s_l01Check.F (fun y0 => g y0) t.1) (by kernel_rfl) s_l01Check.hE Tryz.func151 (by kernel_rfl) rfl (Nat.le_refl _) (fun t => HintOk.n1 (by kernel_rfl) (s_l01Check.hok s_l01Check.hE)) (fun t g => s_l01Check_nat g t.1) (fun t => by kernel_rfl)
/-! loop.example_g00220_spec.l02Frame -/
def s_l02Frame.F {R : Type} (kk : List Int → Option R) (data : List Int) : Option R :=
  (s_l02Two (List.length data : Int)).bind fun r =>
  grd (gRm (((List.length ([] : List Int)) + (List.length r)) * 1)) <|
  grd (gRm (((List.length (([] : List Int) ++ r)) + (List.length data)) * 1)) <|
  (s_l01Check ((([] : List Int) ++ r) ++ data)).bind fun r1 =>
  (s_l02Four r1).bind fun r2 =>
  grd (gRm (((List.length r) + (List.length r2)) * 1)) <|
  grd (gRm (((List.length (r ++ r2)) + (List.length data)) * 1)) <|
  kk ((r ++ r2) ++ data)
theorem s_l02Frame.F_nat {R S : Type} (g : R → Option S) (kk : List Int → Option R) (data : List Int) : s_l02Frame.F (fun y0 => (kk y0).bind g) data = (s_l02Frame.F kk data).bind g := by
  simp only [s_l02Frame.F, grd_bind, cnd_bind, bnd_bind, non_bind]
def s_l02Frame (data : List Int) : Option (List Int) := s_l02Frame.F (fun y0 => some y0) data
theorem s_l02Frame_nat {S : Type} (g : (List Int) → Option S) (data : List Int) : s_l02Frame.F (fun y0 => g y0) data = (s_l02Frame data).bind g := s_l02Frame.F_nat g (fun y0 => some y0) data
def s_l02Frame.out : (List Int) → CRes := fun a => ⟨encL SV.enc [.one (.own [] (.int .u8) true)] (a, ()), [encL SC.enc [] ()]⟩
def s_l02Frame.ps : List PS := [.val [some ((.int .u8), false)]]
def s_l02Frame.sA : List SA := [.v (.one (.slv [] (.int .u8)))]
def s_l02Frame.fi : FI := FIs s_l02Frame.sA (List Int) (fun t => s_l02Frame t.1) s_l02Frame.out s_l02Frame.ps
def s_l02Frame.E : Env := ⟨tt, lkF [(133, s_l02Four.fi), (150, s_l02Two.fi), (151, s_l01Check.fi)], 20, 0, [], []⟩
theorem s_l02Frame.hok (hE : EOk Tryz.prog (s_l02Frame.E)) : HintOk Tryz.prog s_l02Frame.E (bodyOf Tryz.f110) (.a) := HintOk.n1 (Q := True) (by kernel_rfl) trivial
theorem s_l02Frame.hE : EOk Tryz.prog (s_l02Frame.E) := EOk.of ttOk (⟨s_l02Four.fok, ⟨s_l02Two.fok, ⟨s_l01Check.fok, trivial⟩⟩⟩)
theorem s_l02Frame.fok : FOk Tryz.prog 110 s_l02Frame.fi :=
  fokS (E := s_l02Frame.E) (wy := ⟨[[some ((.int .u8), true)]], [[]], []⟩) (h := (fun gs => .a)) (G := fun t g => s_l02Frame.F (fun y0 => g y0) t.1) (by kernel_rfl) s_l02Frame.hE Tryz.func110 (by kernel_rfl) rfl (Nat.le_refl _) (fun t => HintOk.n1 (by kernel_rfl) (s_l02Frame.hok s_l02Frame.hE)) (fun t g => s_l02Frame_nat g t.1) (fun t => by kernel_rfl)
/-! loop.example_g00220_spec.l02Frames -/
def s_l02Frames.l1 {R : Type} (kke0 : Int → List ByteArray → Option R) (kkr : Int → Int → List ByteArray → Option R) : Nat → List Int → Int → List ByteArray → Option R
  | 0, _, _, _ => none
  | n + 1, b, at_, out =>
    cond (decide (at_ < (List.length b : Int))) (
      cond (decide ((IntKind.wrap .i64 ((List.length b : Int) - at_)) < (6 : Int))) (kkr at_ (16 : Int) out) (
        grd (gIx at_ (List.length b)) <|
        grd (gIx (IntKind.wrap .i64 (at_ + (1 : Int))) (List.length b)) <|
        cond ((IntKind.wrap .i64 ((IntKind.wrap .i64 ((IntKind.wrap .i64 (rdE (.int .u8 : Kd) b (Int.toNat at_))) * (256 : Int))) + (IntKind.wrap .i64 (rdE (.int .u8 : Kd) b (Int.toNat (IntKind.wrap .i64 (at_ + (1 : Int)))))))) == (0 : Int)) (kkr at_ (8 : Int) out) (
          cond (decide ((IntKind.wrap .i64 ((IntKind.wrap .i64 ((IntKind.wrap .i64 (rdE (.int .u8 : Kd) b (Int.toNat at_))) * (256 : Int))) + (IntKind.wrap .i64 (rdE (.int .u8 : Kd) b (Int.toNat (IntKind.wrap .i64 (at_ + (1 : Int)))))))) > (200 : Int))) (kkr at_ (8 : Int) out) (
            cond (decide ((IntKind.wrap .i64 ((IntKind.wrap .i64 ((List.length b : Int) - at_)) - (6 : Int))) < (IntKind.wrap .i64 ((IntKind.wrap .i64 ((IntKind.wrap .i64 (rdE (.int .u8 : Kd) b (Int.toNat at_))) * (256 : Int))) + (IntKind.wrap .i64 (rdE (.int .u8 : Kd) b (Int.toNat (IntKind.wrap .i64 (at_ + (1 : Int)))))))))) (kkr at_ (16 : Int) out) (
              grd (gSl (IntKind.wrap .i64 (at_ + (6 : Int))) (IntKind.wrap .i64 ((IntKind.wrap .i64 (at_ + (6 : Int))) + (IntKind.wrap .i64 ((IntKind.wrap .i64 ((IntKind.wrap .i64 (rdE (.int .u8 : Kd) b (Int.toNat at_))) * (256 : Int))) + (IntKind.wrap .i64 (rdE (.int .u8 : Kd) b (Int.toNat (IntKind.wrap .i64 (at_ + (1 : Int)))))))))) (List.length b)) <|
              (s_l02Frame (sub b (IntKind.wrap .i64 (at_ + (6 : Int))) (IntKind.wrap .i64 ((IntKind.wrap .i64 (at_ + (6 : Int))) + (IntKind.wrap .i64 ((IntKind.wrap .i64 ((IntKind.wrap .i64 (rdE (.int .u8 : Kd) b (Int.toNat at_))) * (256 : Int))) + (IntKind.wrap .i64 (rdE (.int .u8 : Kd) b (Int.toNat (IntKind.wrap .i64 (at_ + (1 : Int)))))))))))).bind fun r =>
              grd (gSl at_ (IntKind.wrap .i64 ((IntKind.wrap .i64 (at_ + (6 : Int))) + (IntKind.wrap .i64 ((IntKind.wrap .i64 ((IntKind.wrap .i64 (rdE (.int .u8 : Kd) b (Int.toNat at_))) * (256 : Int))) + (IntKind.wrap .i64 (rdE (.int .u8 : Kd) b (Int.toNat (IntKind.wrap .i64 (at_ + (1 : Int)))))))))) (List.length b)) <|
              cond (!(sEq (strL r) (strL (sub b at_ (IntKind.wrap .i64 ((IntKind.wrap .i64 (at_ + (6 : Int))) + (IntKind.wrap .i64 ((IntKind.wrap .i64 ((IntKind.wrap .i64 (rdE (.int .u8 : Kd) b (Int.toNat at_))) * (256 : Int))) + (IntKind.wrap .i64 (rdE (.int .u8 : Kd) b (Int.toNat (IntKind.wrap .i64 (at_ + (1 : Int)))))))))))))) (kkr at_ (8 : Int) out) (
                grd (gRm (((List.length out) + (List.length [strL (sub b (IntKind.wrap .i64 (at_ + (6 : Int))) (IntKind.wrap .i64 ((IntKind.wrap .i64 (at_ + (6 : Int))) + (IntKind.wrap .i64 ((IntKind.wrap .i64 ((IntKind.wrap .i64 (rdE (.int .u8 : Kd) b (Int.toNat at_))) * (256 : Int))) + (IntKind.wrap .i64 (rdE (.int .u8 : Kd) b (Int.toNat (IntKind.wrap .i64 (at_ + (1 : Int)))))))))))])) * 16)) <|
                s_l02Frames.l1 kke0 kkr n b (IntKind.wrap .i64 (at_ + (IntKind.wrap .i64 ((6 : Int) + (IntKind.wrap .i64 ((IntKind.wrap .i64 ((IntKind.wrap .i64 (rdE (.int .u8 : Kd) b (Int.toNat at_))) * (256 : Int))) + (IntKind.wrap .i64 (rdE (.int .u8 : Kd) b (Int.toNat (IntKind.wrap .i64 (at_ + (1 : Int)))))))))))) (out ++ [strL (sub b (IntKind.wrap .i64 (at_ + (6 : Int))) (IntKind.wrap .i64 ((IntKind.wrap .i64 (at_ + (6 : Int))) + (IntKind.wrap .i64 ((IntKind.wrap .i64 ((IntKind.wrap .i64 (rdE (.int .u8 : Kd) b (Int.toNat at_))) * (256 : Int))) + (IntKind.wrap .i64 (rdE (.int .u8 : Kd) b (Int.toNat (IntKind.wrap .i64 (at_ + (1 : Int)))))))))))]))))))) (kke0 at_ out)
theorem s_l02Frames.l1_nat {R S : Type} (g : R → Option S) (kke0 : Int → List ByteArray → Option R) (kkr : Int → Int → List ByteArray → Option R) : ∀ (n : Nat) (b : List Int) (at_ : Int) (out : List ByteArray), s_l02Frames.l1 (fun y0 y1 => (kke0 y0 y1).bind g) (fun y0 y1 y2 => (kkr y0 y1 y2).bind g) n b at_ out = (s_l02Frames.l1 kke0 kkr n b at_ out).bind g := by
  intro n
  induction n with
  | zero => intros; rfl
  | succ n ih => intros; simp only [s_l02Frames.l1, grd_bind, cnd_bind, bnd_bind, non_bind, ih]
def s_l02Frames.F {R : Type} (kk : List ByteArray → Int → Int → Option R) (b : List Int) : Option R :=
  s_l02Frames.l1 (fun at_ out => kk out at_ (0 : Int)) (fun i i1 l => kk l i i1) fuel b (0 : Int) ([] : List ByteArray)
theorem s_l02Frames.F_nat {R S : Type} (g : R → Option S) (kk : List ByteArray → Int → Int → Option R) (b : List Int) : s_l02Frames.F (fun y0 y1 y2 => (kk y0 y1 y2).bind g) b = (s_l02Frames.F kk b).bind g := by
  simp only [s_l02Frames.F, grd_bind, cnd_bind, bnd_bind, non_bind, ← s_l02Frames.l1_nat]
def s_l02Frames (b : List Int) : Option (List ByteArray × Int × Int) := s_l02Frames.F (fun y0 y1 y2 => some (y0, y1, y2)) b
theorem s_l02Frames_nat {S : Type} (g : (List ByteArray × Int × Int) → Option S) (b : List Int) : s_l02Frames.F (fun y0 y1 y2 => g (y0, y1, y2)) b = (s_l02Frames b).bind g := s_l02Frames.F_nat g (fun y0 y1 y2 => some (y0, y1, y2)) b
def s_l02Frames.out : (List ByteArray × Int × Int) → CRes := fun a => ⟨encL SV.enc [.one (.own [] .str true), .one (.int .i64), .one (.int .i64)] (a.1, a.2.1, a.2.2, ()), [encL SC.enc [] ()]⟩
def s_l02Frames.ps : List PS := [.val [some ((.int .u8), false)]]
def s_l02Frames.sA : List SA := [.v (.one (.slv [] (.int .u8)))]
def s_l02Frames.fi : FI := FIs s_l02Frames.sA (List ByteArray × Int × Int) (fun t => s_l02Frames t.1) s_l02Frames.out s_l02Frames.ps
def s_l02Frames.E : Env := ⟨tt, lkF [(110, s_l02Frame.fi)], 84, 0, [], []⟩
def s_l02Frames.sh1 : SK := ⟨[.v (.one (.slv [1] (.int .u8))), .v (.one (.slo 0)), .v (.one (.int .i64))], [.arr .str [] true]⟩
def s_l02Frames.sh1e0 : SK := ⟨[.v (.one (.slo 0)), .v (.one (.int .i64))], [.arr .str [] true]⟩
def s_l02Frames.sh1r : SK := ⟨[.v (.one (.slo 0)), .v (.one (.int .i64)), .v (.one (.int .i64))], [.arr .str [] true]⟩
def s_l02Frames.ko1 : Ex → List CastAt × List Nat
  | .nrm => ([], [])
  | .ret => ([], [2, 3, 4])
  | .ext i => cond (Nat.beq i 0) ([], [5, 6]) ([], [])
def s_l02Frames.G1 (n : Nat) (R : Type) (t : s_l02Frames.sh1.T) (K : Ex → Kp → Option R) : Option R := s_l02Frames.l1 (fun y0 y1 => K (.ext 0) (SK.enc s_l02Frames.sh1e0 (((), y0, ()), (y1, ())))) (fun y0 y1 y2 => K .ret (SK.enc s_l02Frames.sh1r (((), y0, y1, ()), (y2, ())))) n t.1.1 t.1.2.2.1 t.2.1
def s_l02Frames.S1 : Sum := ⟨([], [0, 5, 6]), sumF s_l02Frames.sh1 (s_l02Frames.G1 fuel), s_l02Frames.ko1⟩
theorem s_l02Frames.ok1 (hE : EOk Tryz.prog (s_l02Frames.E)) : SumOk Tryz.prog s_l02Frames.E (cB (cL (cR (cR (cR (bodyOf Tryz.f97)))))) (s_l02Frames.S1) := by
  have hh : HintOk Tryz.prog s_l02Frames.E (cB (cB (cL (cR (cR (cR (bodyOf Tryz.f97))))))) (.a) := HintOk.n1 (Q := True) (by kernel_rfl) trivial
  have h := loopS (kin := ([], [0, 5, 6])) (kout := s_l02Frames.ko1) (sh := s_l02Frames.sh1) (F := s_l02Frames.G1) (ops_ok (hE.gv _)) (by kernel_rfl) hh (fun _ _ _ => rfl) (fun n R t K => by kernel_rfl) fuel
  exact HintOk.n1 (c := (cB (cL (cR (cR (cR (bodyOf Tryz.f97))))))) (h := .s (s_l02Frames.S1)) (P := Tryz.prog) (E := s_l02Frames.E) (by kernel_rfl) h
theorem s_l02Frames.hok (hE : EOk Tryz.prog (s_l02Frames.E)) : HintOk Tryz.prog s_l02Frames.E (bodyOf Tryz.f97) (.n (.a) (.n (.a) (.n (.a) (.n (.b (.s (s_l02Frames.S1))) (.a))))) := HintOk.n1 (Q := (True) ∧ ((True) ∧ ((True) ∧ ((SumOk Tryz.prog s_l02Frames.E (cB (cL (cR (cR (cR (bodyOf Tryz.f97)))))) (s_l02Frames.S1)) ∧ (True))))) (by kernel_rfl) ⟨trivial, ⟨trivial, ⟨trivial, ⟨(s_l02Frames.ok1 hE), trivial⟩⟩⟩⟩
theorem s_l02Frames.hE : EOk Tryz.prog (s_l02Frames.E) := EOk.of ttOk (⟨s_l02Frame.fok, trivial⟩)
theorem s_l02Frames.fok : FOk Tryz.prog 97 s_l02Frames.fi :=
  fokS (E := s_l02Frames.E) (wy := ⟨[[some (.str, true)], [none], [none]], [[]], []⟩) (h := (fun gs => .n (.a) (.n (.a) (.n (.a) (.n (.b (.s (s_l02Frames.S1))) (.a)))))) (G := fun t g => s_l02Frames.F (fun y0 y1 y2 => g (y0, y1, y2)) t.1) (by kernel_rfl) s_l02Frames.hE Tryz.func97 (by kernel_rfl) rfl (Nat.le_refl _) (fun t => HintOk.n1 (by kernel_rfl) (s_l02Frames.hok s_l02Frames.hE)) (fun t g => s_l02Frames_nat g t.1) (fun t => by kernel_rfl)
/-! __loop.example_g00220_spec.l02Reader_.number -/
def s_l02Reader_number.l1 {R : Type} (kke0 : Int → List Int → Int → Bool → Option R) (kkr : Int → List Int → Int → Bool → Option R) : Nat → Int → Int → Int → List Int → Int → Bool → Option R
  | 0, _, _, _, _, _, _ => none
  | n + 1, n_, out, i, r, r1, r2 =>
    cond (decide (i < n_)) (
      cond (r2) (kkr (0 : Int) r r1 true) (
        cond (decide (r1 ≥ (List.length r : Int))) (kkr (0 : Int) r r1 true) (
          grd (gIx r1 (List.length r)) <|
          s_l02Reader_number.l1 kke0 kkr n n_ (IntKind.wrap .i64 ((IntKind.wrap .i64 (out * (256 : Int))) + (IntKind.wrap .i64 (rdE (.int .u8 : Kd) r (Int.toNat r1))))) (IntKind.wrap .i64 (i + (1 : Int))) r (IntKind.wrap .i64 (r1 + (1 : Int))) r2))) (kke0 out r r1 r2)
theorem s_l02Reader_number.l1_nat {R S : Type} (g : R → Option S) (kke0 : Int → List Int → Int → Bool → Option R) (kkr : Int → List Int → Int → Bool → Option R) : ∀ (n : Nat) (n_ : Int) (out : Int) (i : Int) (r : List Int) (r1 : Int) (r2 : Bool), s_l02Reader_number.l1 (fun y0 y1 y2 y3 => (kke0 y0 y1 y2 y3).bind g) (fun y0 y1 y2 y3 => (kkr y0 y1 y2 y3).bind g) n n_ out i r r1 r2 = (s_l02Reader_number.l1 kke0 kkr n n_ out i r r1 r2).bind g := by
  intro n
  induction n with
  | zero => intros; rfl
  | succ n ih => intros; simp only [s_l02Reader_number.l1, grd_bind, cnd_bind, bnd_bind, non_bind, ih]
def s_l02Reader_number.F {R : Type} (kk : Int → List Int → Int → Bool → Option R) (r_b : List Int) (r_at : Int) (r_bad : Bool) (n_ : Int) : Option R :=
  s_l02Reader_number.l1 (fun out r r1 r2 => kk out r r1 r2) (fun i r3 r4 r5 => kk i r3 r4 r5) fuel n_ (0 : Int) (0 : Int) r_b r_at r_bad
theorem s_l02Reader_number.F_nat {R S : Type} (g : R → Option S) (kk : Int → List Int → Int → Bool → Option R) (r_b : List Int) (r_at : Int) (r_bad : Bool) (n_ : Int) : s_l02Reader_number.F (fun y0 y1 y2 y3 => (kk y0 y1 y2 y3).bind g) r_b r_at r_bad n_ = (s_l02Reader_number.F kk r_b r_at r_bad n_).bind g := by
  simp only [s_l02Reader_number.F, grd_bind, cnd_bind, bnd_bind, non_bind, ← s_l02Reader_number.l1_nat]
def s_l02Reader_number (r_b : List Int) (r_at : Int) (r_bad : Bool) (n_ : Int) : Option (Int × List Int × Int × Bool) := s_l02Reader_number.F (fun y0 y1 y2 y3 => some (y0, y1, y2, y3)) r_b r_at r_bad n_
theorem s_l02Reader_number_nat {S : Type} (g : (Int × List Int × Int × Bool) → Option S) (r_b : List Int) (r_at : Int) (r_bad : Bool) (n_ : Int) : s_l02Reader_number.F (fun y0 y1 y2 y3 => g (y0, y1, y2, y3)) r_b r_at r_bad n_ = (s_l02Reader_number r_b r_at r_bad n_).bind g := s_l02Reader_number.F_nat g (fun y0 y1 y2 y3 => some (y0, y1, y2, y3)) r_b r_at r_bad n_
def s_l02Reader_number.out : (Int × List Int × Int × Bool) → CRes := fun a => ⟨encL SV.enc [.one (.int .i64)] (a.1, ()), [encL SC.enc [.slv [1] (.int .u8), .int .i64, .bool] (a.2.1, a.2.2.1, a.2.2.2, ()), encL SC.enc [] ()]⟩
def s_l02Reader_number.ps : List PS := [.ptr [some ((.int .u8), false), none, none], .val [none]]
def s_l02Reader_number.sA : List SA := [.ptr [.slv [] (.int .u8), .int .i64, .bool], .v (.one (.int .i64))]
def s_l02Reader_number.fi : FI := FIs s_l02Reader_number.sA (Int × List Int × Int × Bool) (fun t => s_l02Reader_number t.1.1 t.1.2.1 t.1.2.2.1 t.2.1) s_l02Reader_number.out s_l02Reader_number.ps
def s_l02Reader_number.E : Env := ⟨tt, lkF [], 53, 1, [], []⟩
def s_l02Reader_number.sh1 : SK := ⟨[.v (.one (.bptr 0 0)), .v (.one (.int .i64)), .v (.one (.int .i64)), .v (.one (.int .i64))], [.box [.slv [1] (.int .u8), .int .i64, .bool]]⟩
def s_l02Reader_number.sh1e0 : SK := ⟨[.v (.one (.bptr 0 0)), .v (.one (.int .i64))], [.box [.slv [1] (.int .u8), .int .i64, .bool]]⟩
def s_l02Reader_number.sh1r : SK := ⟨[.v (.one (.bptr 0 0)), .v (.one (.int .i64))], [.box [.slv [1] (.int .u8), .int .i64, .bool]]⟩
def s_l02Reader_number.ko1 : Ex → List CastAt × List Nat
  | .nrm => ([], [])
  | .ret => ([], [0, 4])
  | .ext i => cond (Nat.beq i 0) ([], [0, 5]) ([], [])
def s_l02Reader_number.G1 (n : Nat) (R : Type) (t : s_l02Reader_number.sh1.T) (K : Ex → Kp → Option R) : Option R := s_l02Reader_number.l1 (fun y0 y1 y2 y3 => K (.ext 0) (SK.enc s_l02Reader_number.sh1e0 (((), y0, ()), ((y1, y2, y3, ()), ())))) (fun y0 y1 y2 y3 => K .ret (SK.enc s_l02Reader_number.sh1r (((), y0, ()), ((y1, y2, y3, ()), ())))) n t.1.2.1 t.1.2.2.1 t.1.2.2.2.1 t.2.1.1 t.2.1.2.1 t.2.1.2.2.1
def s_l02Reader_number.S1 : Sum := ⟨([], [0, 1, 5, 6]), sumF s_l02Reader_number.sh1 (s_l02Reader_number.G1 fuel), s_l02Reader_number.ko1⟩
theorem s_l02Reader_number.ok1 (hE : EOk Tryz.prog (s_l02Reader_number.E)) : SumOk Tryz.prog s_l02Reader_number.E (cB (cR (cL (cR (cR (bodyOf Tryz.f98)))))) (s_l02Reader_number.S1) := by
  have hh : HintOk Tryz.prog s_l02Reader_number.E (cB (cB (cR (cL (cR (cR (bodyOf Tryz.f98))))))) (.a) := HintOk.n1 (Q := True) (by kernel_rfl) trivial
  have h := loopS (kin := ([], [0, 1, 5, 6])) (kout := s_l02Reader_number.ko1) (sh := s_l02Reader_number.sh1) (F := s_l02Reader_number.G1) (ops_ok (hE.gv _)) (by kernel_rfl) hh (fun _ _ _ => rfl) (fun n R t K => by kernel_rfl) fuel
  exact HintOk.n1 (c := (cB (cR (cL (cR (cR (bodyOf Tryz.f98))))))) (h := .s (s_l02Reader_number.S1)) (P := Tryz.prog) (E := s_l02Reader_number.E) (by kernel_rfl) h
theorem s_l02Reader_number.hok (hE : EOk Tryz.prog (s_l02Reader_number.E)) : HintOk Tryz.prog s_l02Reader_number.E (bodyOf Tryz.f98) (.n (.a) (.n (.a) (.n (.n (.a) (.b (.s (s_l02Reader_number.S1)))) (.a)))) := HintOk.n1 (Q := (True) ∧ ((True) ∧ (((True) ∧ (SumOk Tryz.prog s_l02Reader_number.E (cB (cR (cL (cR (cR (bodyOf Tryz.f98)))))) (s_l02Reader_number.S1))) ∧ (True)))) (by kernel_rfl) ⟨trivial, ⟨trivial, ⟨⟨trivial, (s_l02Reader_number.ok1 hE)⟩, trivial⟩⟩⟩
theorem s_l02Reader_number.hE : EOk Tryz.prog (s_l02Reader_number.E) := EOk.of ttOk (trivial)
theorem s_l02Reader_number.fok : FOk Tryz.prog 98 s_l02Reader_number.fi :=
  fokS (E := s_l02Reader_number.E) (wy := ⟨[[none]], [[some ((.int .u8), false), none, none], []], []⟩) (h := (fun gs => .n (.a) (.n (.a) (.n (.n (.a) (.b (.s (s_l02Reader_number.S1)))) (.a))))) (G := fun t g => s_l02Reader_number.F (fun y0 y1 y2 y3 => g (y0, y1, y2, y3)) t.1.1 t.1.2.1 t.1.2.2.1 t.2.1) (by kernel_rfl) s_l02Reader_number.hE Tryz.func98 (by kernel_rfl) rfl (Nat.le_refl _) (fun t => HintOk.n1 (by kernel_rfl) (s_l02Reader_number.hok s_l02Reader_number.hE)) (fun t g => s_l02Reader_number_nat g t.1.1 t.1.2.1 t.1.2.2.1 t.2.1) (fun t => by kernel_rfl)
/-! loop.example_g00220_spec.l04Read -/
def s_l04Read.j1 {R : Type} (kkn : Int → ByteArray → Int → Bool → Int → List (El kFile) → Int → Int → Int → Int → List Int → List ByteArray → List ByteArray → List ByteArray → Option R) (kkr : Int → Int → Int → List ByteArray → List ByteArray → Option R) (i : Int) (data : ByteArray) (good : Int) (code : Int) (last : Bool) (d : Int) (d1 : List (El kFile)) (i1 : Int) (i2 : Int) (w : Int) (w1 : Int) (list : List Int) (frames : List ByteArray) (l : List ByteArray) (l1 : List ByteArray) : Option R :=
  cond (code == (8 : Int)) (kkr (8 : Int) w w1 l l1) (
    cond (code == (16 : Int)) (
      cond (!last) (kkr (8 : Int) w w1 l l1) (kkn i data good last d d1 i1 i2 w w1 list frames l l1)) (kkn i data good last d d1 i1 i2 w w1 list frames l l1))
theorem s_l04Read.j1_nat {R S : Type} (g : R → Option S) (kkn : Int → ByteArray → Int → Bool → Int → List (El kFile) → Int → Int → Int → Int → List Int → List ByteArray → List ByteArray → List ByteArray → Option R) (kkr : Int → Int → Int → List ByteArray → List ByteArray → Option R) (i : Int) (data : ByteArray) (good : Int) (code : Int) (last : Bool) (d : Int) (d1 : List (El kFile)) (i1 : Int) (i2 : Int) (w : Int) (w1 : Int) (list : List Int) (frames : List ByteArray) (l : List ByteArray) (l1 : List ByteArray) : s_l04Read.j1 (fun y0 y1 y2 y3 y4 y5 y6 y7 y8 y9 y10 y11 y12 y13 => (kkn y0 y1 y2 y3 y4 y5 y6 y7 y8 y9 y10 y11 y12 y13).bind g) (fun y0 y1 y2 y3 y4 => (kkr y0 y1 y2 y3 y4).bind g) i data good code last d d1 i1 i2 w w1 list frames l l1 = (s_l04Read.j1 kkn kkr i data good code last d d1 i1 i2 w w1 list frames l l1).bind g := by
  simp only [s_l04Read.j1, grd_bind, cnd_bind, bnd_bind, non_bind]
def s_l04Read.j2 {R : Type} (kkn : Int → ByteArray → Int → Bool → Int → List (El kFile) → Int → Int → Int → Int → List Int → List ByteArray → List ByteArray → List ByteArray → Option R) (kkr : Int → Int → Int → List ByteArray → List ByteArray → Option R) (i : Int) (data : ByteArray) (good : Int) (last : Bool) (d : Int) (d1 : List (El kFile)) (i1 : Int) (i2 : Int) (w : Int) (w1 : Int) (list : List Int) (frames : List ByteArray) (l : List ByteArray) (l1 : List ByteArray) : Option R :=
  cond (decide (i > (0 : Int))) (
    grd (gIx i (List.length list)) <|
    grd (gIx (IntKind.wrap .i64 (i - (1 : Int))) (List.length list)) <|
    cond ((rdE (.int .i64 : Kd) list (Int.toNat i)) != (IntKind.wrap .i64 ((rdE (.int .i64 : Kd) list (Int.toNat (IntKind.wrap .i64 (i - (1 : Int))))) + (1 : Int)))) (kkr (3 : Int) w w1 l l1) (kkn i data good last d d1 i1 i2 w w1 list frames l l1)) (kkn i data good last d d1 i1 i2 w w1 list frames l l1)
theorem s_l04Read.j2_nat {R S : Type} (g : R → Option S) (kkn : Int → ByteArray → Int → Bool → Int → List (El kFile) → Int → Int → Int → Int → List Int → List ByteArray → List ByteArray → List ByteArray → Option R) (kkr : Int → Int → Int → List ByteArray → List ByteArray → Option R) (i : Int) (data : ByteArray) (good : Int) (last : Bool) (d : Int) (d1 : List (El kFile)) (i1 : Int) (i2 : Int) (w : Int) (w1 : Int) (list : List Int) (frames : List ByteArray) (l : List ByteArray) (l1 : List ByteArray) : s_l04Read.j2 (fun y0 y1 y2 y3 y4 y5 y6 y7 y8 y9 y10 y11 y12 y13 => (kkn y0 y1 y2 y3 y4 y5 y6 y7 y8 y9 y10 y11 y12 y13).bind g) (fun y0 y1 y2 y3 y4 => (kkr y0 y1 y2 y3 y4).bind g) i data good last d d1 i1 i2 w w1 list frames l l1 = (s_l04Read.j2 kkn kkr i data good last d d1 i1 i2 w w1 list frames l l1).bind g := by
  simp only [s_l04Read.j2, grd_bind, cnd_bind, bnd_bind, non_bind]
def s_l04Read.j3 {R : Type} (kkn : Int → ByteArray → Int → Int → List (El kFile) → Int → Int → Int → Int → List Int → List ByteArray → List ByteArray → List ByteArray → Option R) (kkr : Int → Int → Int → List ByteArray → List ByteArray → Option R) (i : Int) (data : ByteArray) (good : Int) (first : Int) (d : Int) (d1 : List (El kFile)) (i1 : Int) (i2 : Int) (w : Int) (w1 : Int) (list : List Int) (frames : List ByteArray) (l : List ByteArray) (l1 : List ByteArray) : Option R :=
  cond (i == (0 : Int)) (kkn i data good d d1 i1 i2 first w1 list frames l l1) (
    cond (first != (IntKind.wrap .i64 (w + (List.length l : Int)))) (kkr (3 : Int) w w1 l l1) (kkn i data good d d1 i1 i2 w w1 list frames l l1))
theorem s_l04Read.j3_nat {R S : Type} (g : R → Option S) (kkn : Int → ByteArray → Int → Int → List (El kFile) → Int → Int → Int → Int → List Int → List ByteArray → List ByteArray → List ByteArray → Option R) (kkr : Int → Int → Int → List ByteArray → List ByteArray → Option R) (i : Int) (data : ByteArray) (good : Int) (first : Int) (d : Int) (d1 : List (El kFile)) (i1 : Int) (i2 : Int) (w : Int) (w1 : Int) (list : List Int) (frames : List ByteArray) (l : List ByteArray) (l1 : List ByteArray) : s_l04Read.j3 (fun y0 y1 y2 y3 y4 y5 y6 y7 y8 y9 y10 y11 y12 => (kkn y0 y1 y2 y3 y4 y5 y6 y7 y8 y9 y10 y11 y12).bind g) (fun y0 y1 y2 y3 y4 => (kkr y0 y1 y2 y3 y4).bind g) i data good first d d1 i1 i2 w w1 list frames l l1 = (s_l04Read.j3 kkn kkr i data good first d d1 i1 i2 w w1 list frames l l1).bind g := by
  simp only [s_l04Read.j3, grd_bind, cnd_bind, bnd_bind, non_bind]
def s_l04Read.l4 {R : Type} (kke0 : Int → Int → Int → Int → List ByteArray → List ByteArray → Option R) (kkr : Int → Int → Int → List ByteArray → List ByteArray → Option R) : Nat → Int → Int → List (El kFile) → Int → Int → Int → Int → List Int → List ByteArray → List ByteArray → Option R
  | 0, _, _, _, _, _, _, _, _, _, _ => none
  | n + 1, i, d, d1, i1, i2, w, w1, list, l, l1 =>
    cond (decide (i < (List.length list : Int))) (
      grd (gIx i (List.length list)) <|
      (s_l04Data d d1 (rdE (.int .i64 : Kd) list (Int.toNat i))).bind fun r =>
      (s_l02Frames (bytesL r)).bind fun r1 =>
      s_l04Read.j1 (fun i3 data good last d2 d3 i4 i5 w2 w3 list1 frames l2 l3 =>
        s_l04Read.j2 (fun i6 data1 good1 last1 d4 d5 i7 i8 w4 w5 list2 frames1 l4 l5 =>
          cond ((List.length frames1 : Int) == (0 : Int)) (
            cond (!last1) (kkr (3 : Int) w4 w5 l4 l5) (
              grd (gIx i6 (List.length list2)) <|
              (s_l04Name (rdE (.int .i64 : Kd) list2 (Int.toNat i6))).bind fun r2 =>
              grd (gRm (((List.length l5) + (List.length [r2])) * 16)) <|
              kkr (0 : Int) w4 (ByteArray.size data1 : Int) l4 (l5 ++ [r2]))) (
            grd (gIx (0 : Int) (List.length frames1)) <|
            cond ((ByteArray.size (rdE (.str : Kd) frames1 (Int.toNat (0 : Int))) : Int) != (4 : Int)) (kkr (3 : Int) w4 w5 l4 l5) (
              grd (gIx (0 : Int) (List.length frames1)) <|
              (s_l02Reader_number (bytesL (rdE (.str : Kd) frames1 (Int.toNat (0 : Int)))) (0 : Int) false (4 : Int)).bind fun r3 =>
              s_l04Read.j3 (fun i9 data2 good2 d6 d7 i10 i11 w6 w7 list3 frames2 l6 l7 =>
                grd (gIx i9 (List.length list3)) <|
                (s_l04Name (rdE (.int .i64 : Kd) list3 (Int.toNat i9))).bind fun r4 =>
                grd (gRm (((List.length l7) + (List.length [r4])) * 16)) <|
                grd (gSl (1 : Int) (List.length frames2 : Int) (List.length frames2)) <|
                grd (gRm (((List.length l6) + (List.length (sub frames2 (1 : Int) (List.length frames2 : Int)))) * 16)) <|
                s_l04Read.l4 kke0 kkr n (IntKind.wrap .i64 (i9 + (1 : Int))) d6 d7 i10 i11 w6 (IntKind.wrap .i64 ((ByteArray.size data2 : Int) - good2)) list3 (l6 ++ (sub frames2 (1 : Int) (List.length frames2 : Int))) (l7 ++ [r4])) (fun i12 i13 i14 l8 l9 => kkr i12 i13 i14 l8 l9) i6 data1 good1 r3.1 d4 d5 i7 i8 w4 w5 list2 frames1 l4 l5))) (fun i15 i16 i17 l10 l11 => kkr i15 i16 i17 l10 l11) i3 data good last d2 d3 i4 i5 w2 w3 list1 frames l2 l3) (fun i18 i19 i20 l12 l13 => kkr i18 i19 i20 l12 l13) i r r1.2.1 r1.2.2 (i == (IntKind.wrap .i64 ((List.length list : Int) - (1 : Int)))) d d1 i1 i2 w w1 list r1.1 l l1) (kke0 i1 i2 w w1 l l1)
theorem s_l04Read.l4_nat {R S : Type} (g : R → Option S) (kke0 : Int → Int → Int → Int → List ByteArray → List ByteArray → Option R) (kkr : Int → Int → Int → List ByteArray → List ByteArray → Option R) : ∀ (n : Nat) (i : Int) (d : Int) (d1 : List (El kFile)) (i1 : Int) (i2 : Int) (w : Int) (w1 : Int) (list : List Int) (l : List ByteArray) (l1 : List ByteArray), s_l04Read.l4 (fun y0 y1 y2 y3 y4 y5 => (kke0 y0 y1 y2 y3 y4 y5).bind g) (fun y0 y1 y2 y3 y4 => (kkr y0 y1 y2 y3 y4).bind g) n i d d1 i1 i2 w w1 list l l1 = (s_l04Read.l4 kke0 kkr n i d d1 i1 i2 w w1 list l l1).bind g := by
  intro n
  induction n with
  | zero => intros; rfl
  | succ n ih => intros; simp only [s_l04Read.l4, grd_bind, cnd_bind, bnd_bind, non_bind, ← s_l04Read.j1_nat, ← s_l04Read.j2_nat, ← s_l04Read.j3_nat, ih]
def s_l04Read.F {R : Type} (kk : Int → List ByteArray → List ByteArray → Int → Int → Option R) (d_Room : Int) (d_Files : List (El kFile)) : Option R :=
  (s_l04Segments d_Room d_Files).bind fun r =>
  s_l04Read.l4 (fun i i1 w w1 l l1 => kk w l l1 w1 (0 : Int)) (fun i2 i3 i4 l2 l3 => kk i3 l2 l3 i4 i2) fuel (0 : Int) d_Room d_Files (0 : Int) (0 : Int) (0 : Int) (0 : Int) r ([] : List ByteArray) ([] : List ByteArray)
theorem s_l04Read.F_nat {R S : Type} (g : R → Option S) (kk : Int → List ByteArray → List ByteArray → Int → Int → Option R) (d_Room : Int) (d_Files : List (El kFile)) : s_l04Read.F (fun y0 y1 y2 y3 y4 => (kk y0 y1 y2 y3 y4).bind g) d_Room d_Files = (s_l04Read.F kk d_Room d_Files).bind g := by
  simp only [s_l04Read.F, grd_bind, cnd_bind, bnd_bind, non_bind, ← s_l04Read.l4_nat]
def s_l04Read (d_Room : Int) (d_Files : List (El kFile)) : Option (Int × List ByteArray × List ByteArray × Int × Int) := s_l04Read.F (fun y0 y1 y2 y3 y4 => some (y0, y1, y2, y3, y4)) d_Room d_Files
theorem s_l04Read_nat {S : Type} (g : (Int × List ByteArray × List ByteArray × Int × Int) → Option S) (d_Room : Int) (d_Files : List (El kFile)) : s_l04Read.F (fun y0 y1 y2 y3 y4 => g (y0, y1, y2, y3, y4)) d_Room d_Files = (s_l04Read d_Room d_Files).bind g := s_l04Read.F_nat g (fun y0 y1 y2 y3 y4 => some (y0, y1, y2, y3, y4)) d_Room d_Files
def s_l04Read.out : (Int × List ByteArray × List ByteArray × Int × Int) → CRes := fun a => ⟨encL SV.enc [.agg [.int .i64, .own [] .str true, .own [] .str true, .int .i64], .one (.int .i64)] ((a.1, a.2.1, a.2.2.1, a.2.2.2.1, ()), a.2.2.2.2, ()), [encL SC.enc [] ()]⟩
def s_l04Read.ps : List PS := [.val [none, some (kFile, false)]]
def s_l04Read.sA : List SA := [.v (.agg [.int .i64, .slv [] kFile])]
def s_l04Read.fi : FI := FIs s_l04Read.sA (Int × List ByteArray × List ByteArray × Int × Int) (fun t => s_l04Read t.1.1 t.1.2.1) s_l04Read.out s_l04Read.ps
def s_l04Read.E : Env := ⟨tt, lkF [(95, s_l04Segments.fi), (96, s_l04Data.fi), (97, s_l02Frames.fi), (98, s_l02Reader_number.fi), (99, s_l04Name.fi)], 139, 0, [], []⟩
def s_l04Read.sh1 : SK := ⟨[.v (.one (.bptr 0 0)), .v (.one (.bptr 1 0)), .v (.one (.bptr 2 0)), .v (.one (.slo 3)), .v (.one (.int .i64)), .v (.one (.str)), .v (.one (.slo 4)), .v (.one (.int .i64)), .v (.one (.int .i64)), .v (.one (.bool))], [.box [.int .i64, .slv [1] kFile], .box [.int .i64, .nil, .nil, .int .i64], .box [.int .i64, .slo 5, .slo 6, .int .i64], .arr (.int .i64) [] true, .arr .str [] true, .arr .str [] true, .arr .str [] true]⟩
def s_l04Read.sh1n : SK := ⟨[.v (.one (.bptr 0 0)), .v (.one (.bptr 1 0)), .v (.one (.bptr 2 0)), .v (.one (.slo 3)), .v (.one (.int .i64)), .v (.one (.str)), .v (.one (.slo 4)), .v (.one (.int .i64)), .v (.one (.bool))], [.box [.int .i64, .slv [1] kFile], .box [.int .i64, .nil, .nil, .int .i64], .box [.int .i64, .slo 5, .slo 6, .int .i64], .arr (.int .i64) [] true, .arr .str [] true, .arr .str [] true, .arr .str [] true]⟩
def s_l04Read.sh1r : SK := ⟨[.v (.one (.bptr 0 0)), .v (.one (.int .i64))], [.box [.int .i64, .slo 1, .slo 2, .int .i64], .arr .str [] true, .arr .str [] true]⟩
def s_l04Read.ko1 : Ex → List CastAt × List Nat
  | .nrm => ([], [1, 2, 4, 5, 6, 7, 8, 9, 11])
  | .ret => ([], [2, 3])
  | .ext i => ([], [])
def s_l04Read.G1 (R : Type) (t : s_l04Read.sh1.T) (K : Ex → Kp → Option R) : Option R := s_l04Read.j1 (fun y0 y1 y2 y3 y4 y5 y6 y7 y8 y9 y10 y11 y12 y13 => K .nrm (SK.enc s_l04Read.sh1n (((), (), (), (), y0, y1, (), y2, y3, ()), ((y4, y5, ()), (y6, (), (), y7, ()), (y8, (), (), y9, ()), y10, y11, y12, y13, ())))) (fun y0 y1 y2 y3 y4 => K .ret (SK.enc s_l04Read.sh1r (((), y0, ()), ((y1, (), (), y2, ()), y3, y4, ())))) t.1.2.2.2.2.1 t.1.2.2.2.2.2.1 t.1.2.2.2.2.2.2.2.1 t.1.2.2.2.2.2.2.2.2.1 t.1.2.2.2.2.2.2.2.2.2.1 t.2.1.1 t.2.1.2.1 t.2.2.1.1 t.2.2.1.2.2.2.1 t.2.2.2.1.1 t.2.2.2.1.2.2.2.1 t.2.2.2.2.1 t.2.2.2.2.2.1 t.2.2.2.2.2.2.1 t.2.2.2.2.2.2.2.1
def s_l04Read.S1 : Sum := ⟨([], [1, 2, 4, 5, 6, 7, 8, 9, 10, 11]), sumF s_l04Read.sh1 (s_l04Read.G1), s_l04Read.ko1⟩
theorem s_l04Read.ok1 (hE : EOk Tryz.prog (s_l04Read.E)) : SumOk Tryz.prog s_l04Read.E (cL (cR (cR (cR (cB (cL (cR (cB (cB (cR (cL (cR (cR (cR (bodyOf Tryz.f94))))))))))))))) (s_l04Read.S1) := by
  have hh : HintOk Tryz.prog s_l04Read.E (cL (cR (cR (cR (cB (cL (cR (cB (cB (cR (cL (cR (cR (cR (bodyOf Tryz.f94))))))))))))))) (.a) := HintOk.n1 (Q := True) (by kernel_rfl) trivial
  exact sumS (kin := ([], [1, 2, 4, 5, 6, 7, 8, 9, 10, 11])) (kout := s_l04Read.ko1) (sh := s_l04Read.sh1) (F := s_l04Read.G1) (ops_ok (hE.gv _)) (by kernel_rfl) hh (fun R t K => by kernel_rfl)
def s_l04Read.sh2 : SK := ⟨[.v (.one (.bptr 0 0)), .v (.one (.bptr 1 0)), .v (.one (.bptr 2 0)), .v (.one (.slo 3)), .v (.one (.int .i64)), .v (.one (.str)), .v (.one (.slo 4)), .v (.one (.int .i64)), .v (.one (.bool))], [.box [.int .i64, .slv [1] kFile], .box [.int .i64, .nil, .nil, .int .i64], .box [.int .i64, .slo 5, .slo 6, .int .i64], .arr (.int .i64) [] true, .arr .str [] true, .arr .str [] true, .arr .str [] true]⟩
def s_l04Read.sh2n : SK := ⟨[.v (.one (.bptr 0 0)), .v (.one (.bptr 1 0)), .v (.one (.bptr 2 0)), .v (.one (.slo 3)), .v (.one (.int .i64)), .v (.one (.str)), .v (.one (.slo 4)), .v (.one (.int .i64)), .v (.one (.bool))], [.box [.int .i64, .slv [1] kFile], .box [.int .i64, .nil, .nil, .int .i64], .box [.int .i64, .slo 5, .slo 6, .int .i64], .arr (.int .i64) [] true, .arr .str [] true, .arr .str [] true, .arr .str [] true]⟩
def s_l04Read.sh2r : SK := ⟨[.v (.one (.bptr 0 0)), .v (.one (.int .i64))], [.box [.int .i64, .slo 1, .slo 2, .int .i64], .arr .str [] true, .arr .str [] true]⟩
def s_l04Read.ko2 : Ex → List CastAt × List Nat
  | .nrm => ([], [1, 2, 4, 5, 6, 7, 8, 9, 11])
  | .ret => ([], [2, 3])
  | .ext i => ([], [])
def s_l04Read.G2 (R : Type) (t : s_l04Read.sh2.T) (K : Ex → Kp → Option R) : Option R := s_l04Read.j2 (fun y0 y1 y2 y3 y4 y5 y6 y7 y8 y9 y10 y11 y12 y13 => K .nrm (SK.enc s_l04Read.sh2n (((), (), (), (), y0, y1, (), y2, y3, ()), ((y4, y5, ()), (y6, (), (), y7, ()), (y8, (), (), y9, ()), y10, y11, y12, y13, ())))) (fun y0 y1 y2 y3 y4 => K .ret (SK.enc s_l04Read.sh2r (((), y0, ()), ((y1, (), (), y2, ()), y3, y4, ())))) t.1.2.2.2.2.1 t.1.2.2.2.2.2.1 t.1.2.2.2.2.2.2.2.1 t.1.2.2.2.2.2.2.2.2.1 t.2.1.1 t.2.1.2.1 t.2.2.1.1 t.2.2.1.2.2.2.1 t.2.2.2.1.1 t.2.2.2.1.2.2.2.1 t.2.2.2.2.1 t.2.2.2.2.2.1 t.2.2.2.2.2.2.1 t.2.2.2.2.2.2.2.1
def s_l04Read.S2 : Sum := ⟨([], [1, 2, 4, 5, 6, 7, 8, 9, 11]), sumF s_l04Read.sh2 (s_l04Read.G2), s_l04Read.ko2⟩
theorem s_l04Read.ok2 (hE : EOk Tryz.prog (s_l04Read.E)) : SumOk Tryz.prog s_l04Read.E (cL (cR (cR (cR (cR (cB (cL (cR (cB (cB (cR (cL (cR (cR (cR (bodyOf Tryz.f94)))))))))))))))) (s_l04Read.S2) := by
  have hh : HintOk Tryz.prog s_l04Read.E (cL (cR (cR (cR (cR (cB (cL (cR (cB (cB (cR (cL (cR (cR (cR (bodyOf Tryz.f94)))))))))))))))) (.a) := HintOk.n1 (Q := True) (by kernel_rfl) trivial
  exact sumS (kin := ([], [1, 2, 4, 5, 6, 7, 8, 9, 11])) (kout := s_l04Read.ko2) (sh := s_l04Read.sh2) (F := s_l04Read.G2) (ops_ok (hE.gv _)) (by kernel_rfl) hh (fun R t K => by kernel_rfl)
def s_l04Read.sh3 : SK := ⟨[.v (.one (.bptr 0 0)), .v (.one (.bptr 1 0)), .v (.one (.bptr 2 0)), .v (.one (.slo 3)), .v (.one (.int .i64)), .v (.one (.str)), .v (.one (.slo 4)), .v (.one (.int .i64)), .v (.one (.int .i64))], [.box [.int .i64, .slv [1] kFile], .box [.int .i64, .nil, .nil, .int .i64], .box [.int .i64, .slo 5, .slo 6, .int .i64], .arr (.int .i64) [] true, .arr .str [] true, .arr .str [] true, .arr .str [] true]⟩
def s_l04Read.sh3n : SK := ⟨[.v (.one (.bptr 0 0)), .v (.one (.bptr 1 0)), .v (.one (.bptr 2 0)), .v (.one (.slo 3)), .v (.one (.int .i64)), .v (.one (.str)), .v (.one (.slo 4)), .v (.one (.int .i64))], [.box [.int .i64, .slv [1] kFile], .box [.int .i64, .nil, .nil, .int .i64], .box [.int .i64, .slo 5, .slo 6, .int .i64], .arr (.int .i64) [] true, .arr .str [] true, .arr .str [] true, .arr .str [] true]⟩
def s_l04Read.sh3r : SK := ⟨[.v (.one (.bptr 0 0)), .v (.one (.int .i64))], [.box [.int .i64, .slo 1, .slo 2, .int .i64], .arr .str [] true, .arr .str [] true]⟩
def s_l04Read.ko3 : Ex → List CastAt × List Nat
  | .nrm => ([], [1, 2, 4, 5, 6, 7, 8, 9])
  | .ret => ([], [2, 3])
  | .ext i => ([], [])
def s_l04Read.G3 (R : Type) (t : s_l04Read.sh3.T) (K : Ex → Kp → Option R) : Option R := s_l04Read.j3 (fun y0 y1 y2 y3 y4 y5 y6 y7 y8 y9 y10 y11 y12 => K .nrm (SK.enc s_l04Read.sh3n (((), (), (), (), y0, y1, (), y2, ()), ((y3, y4, ()), (y5, (), (), y6, ()), (y7, (), (), y8, ()), y9, y10, y11, y12, ())))) (fun y0 y1 y2 y3 y4 => K .ret (SK.enc s_l04Read.sh3r (((), y0, ()), ((y1, (), (), y2, ()), y3, y4, ())))) t.1.2.2.2.2.1 t.1.2.2.2.2.2.1 t.1.2.2.2.2.2.2.2.1 t.1.2.2.2.2.2.2.2.2.1 t.2.1.1 t.2.1.2.1 t.2.2.1.1 t.2.2.1.2.2.2.1 t.2.2.2.1.1 t.2.2.2.1.2.2.2.1 t.2.2.2.2.1 t.2.2.2.2.2.1 t.2.2.2.2.2.2.1 t.2.2.2.2.2.2.2.1
def s_l04Read.S3 : Sum := ⟨([], [1, 2, 4, 5, 6, 7, 8, 9, 13]), sumF s_l04Read.sh3 (s_l04Read.G3), s_l04Read.ko3⟩
theorem s_l04Read.ok3 (hE : EOk Tryz.prog (s_l04Read.E)) : SumOk Tryz.prog s_l04Read.E (cL (cR (cR (cR (cR (cR (cR (cR (cR (cR (cB (cL (cR (cB (cB (cR (cL (cR (cR (cR (bodyOf Tryz.f94))))))))))))))))))))) (s_l04Read.S3) := by
  have hh : HintOk Tryz.prog s_l04Read.E (cL (cR (cR (cR (cR (cR (cR (cR (cR (cR (cB (cL (cR (cB (cB (cR (cL (cR (cR (cR (bodyOf Tryz.f94))))))))))))))))))))) (.a) := HintOk.n1 (Q := True) (by kernel_rfl) trivial
  exact sumS (kin := ([], [1, 2, 4, 5, 6, 7, 8, 9, 13])) (kout := s_l04Read.ko3) (sh := s_l04Read.sh3) (F := s_l04Read.G3) (ops_ok (hE.gv _)) (by kernel_rfl) hh (fun R t K => by kernel_rfl)
def s_l04Read.sh4 : SK := ⟨[.v (.one (.bptr 0 0)), .v (.one (.bptr 1 0)), .v (.one (.bptr 2 0)), .v (.one (.slo 3)), .v (.one (.int .i64))], [.box [.int .i64, .slv [1] kFile], .box [.int .i64, .nil, .nil, .int .i64], .box [.int .i64, .slo 4, .slo 5, .int .i64], .arr (.int .i64) [] true, .arr .str [] true, .arr .str [] true]⟩
def s_l04Read.sh4e0 : SK := ⟨[.v (.one (.bptr 0 0)), .v (.one (.bptr 1 0))], [.box [.int .i64, .nil, .nil, .int .i64], .box [.int .i64, .slo 2, .slo 3, .int .i64], .arr .str [] true, .arr .str [] true]⟩
def s_l04Read.sh4r : SK := ⟨[.v (.one (.bptr 0 0)), .v (.one (.int .i64))], [.box [.int .i64, .slo 1, .slo 2, .int .i64], .arr .str [] true, .arr .str [] true]⟩
def s_l04Read.ko4 : Ex → List CastAt × List Nat
  | .nrm => ([], [])
  | .ret => ([], [2, 3])
  | .ext i => cond (Nat.beq i 0) ([], [2, 4]) ([], [])
def s_l04Read.G4 (n : Nat) (R : Type) (t : s_l04Read.sh4.T) (K : Ex → Kp → Option R) : Option R := s_l04Read.l4 (fun y0 y1 y2 y3 y4 y5 => K (.ext 0) (SK.enc s_l04Read.sh4e0 (((), (), ()), ((y0, (), (), y1, ()), (y2, (), (), y3, ()), y4, y5, ())))) (fun y0 y1 y2 y3 y4 => K .ret (SK.enc s_l04Read.sh4r (((), y0, ()), ((y1, (), (), y2, ()), y3, y4, ())))) n t.1.2.2.2.2.1 t.2.1.1 t.2.1.2.1 t.2.2.1.1 t.2.2.1.2.2.2.1 t.2.2.2.1.1 t.2.2.2.1.2.2.2.1 t.2.2.2.2.1 t.2.2.2.2.2.1 t.2.2.2.2.2.2.1
def s_l04Read.S4 : Sum := ⟨([], [1, 2, 4, 5, 6]), sumF s_l04Read.sh4 (s_l04Read.G4 fuel), s_l04Read.ko4⟩
theorem s_l04Read.ok4 (hE : EOk Tryz.prog (s_l04Read.E)) : SumOk Tryz.prog s_l04Read.E (cB (cR (cL (cR (cR (cR (bodyOf Tryz.f94))))))) (s_l04Read.S4) := by
  have hh : HintOk Tryz.prog s_l04Read.E (cB (cB (cR (cL (cR (cR (cR (bodyOf Tryz.f94)))))))) (.n (.a) (.n (.b (.n (.a) (.n (.a) (.n (.a) (.n (.s (s_l04Read.S1)) (.n (.s (s_l04Read.S2)) (.n (.a) (.n (.a) (.n (.a) (.n (.a) (.n (.s (s_l04Read.S3)) (.a)))))))))))) (.a))) := HintOk.n1 (Q := (True) ∧ (((True) ∧ ((True) ∧ ((True) ∧ ((SumOk Tryz.prog s_l04Read.E (cL (cR (cR (cR (cB (cL (cR (cB (cB (cR (cL (cR (cR (cR (bodyOf Tryz.f94))))))))))))))) (s_l04Read.S1)) ∧ ((SumOk Tryz.prog s_l04Read.E (cL (cR (cR (cR (cR (cB (cL (cR (cB (cB (cR (cL (cR (cR (cR (bodyOf Tryz.f94)))))))))))))))) (s_l04Read.S2)) ∧ ((True) ∧ ((True) ∧ ((True) ∧ ((True) ∧ ((SumOk Tryz.prog s_l04Read.E (cL (cR (cR (cR (cR (cR (cR (cR (cR (cR (cB (cL (cR (cB (cB (cR (cL (cR (cR (cR (bodyOf Tryz.f94))))))))))))))))))))) (s_l04Read.S3)) ∧ (True))))))))))) ∧ (True))) (by kernel_rfl) ⟨trivial, ⟨⟨trivial, ⟨trivial, ⟨trivial, ⟨(s_l04Read.ok1 hE), ⟨(s_l04Read.ok2 hE), ⟨trivial, ⟨trivial, ⟨trivial, ⟨trivial, ⟨(s_l04Read.ok3 hE), trivial⟩⟩⟩⟩⟩⟩⟩⟩⟩⟩, trivial⟩⟩
  have h := loopS (kin := ([], [1, 2, 4, 5, 6])) (kout := s_l04Read.ko4) (sh := s_l04Read.sh4) (F := s_l04Read.G4) (ops_ok (hE.gv _)) (by kernel_rfl) hh (fun _ _ _ => rfl) (fun n R t K => by kernel_rfl) fuel
  exact HintOk.n1 (c := (cB (cR (cL (cR (cR (cR (bodyOf Tryz.f94)))))))) (h := .s (s_l04Read.S4)) (P := Tryz.prog) (E := s_l04Read.E) (by kernel_rfl) h
theorem s_l04Read.hok (hE : EOk Tryz.prog (s_l04Read.E)) : HintOk Tryz.prog s_l04Read.E (bodyOf Tryz.f94) (.n (.a) (.n (.a) (.n (.a) (.n (.n (.a) (.b (.s (s_l04Read.S4)))) (.a))))) := HintOk.n1 (Q := (True) ∧ ((True) ∧ ((True) ∧ (((True) ∧ (SumOk Tryz.prog s_l04Read.E (cB (cR (cL (cR (cR (cR (bodyOf Tryz.f94))))))) (s_l04Read.S4))) ∧ (True))))) (by kernel_rfl) ⟨trivial, ⟨trivial, ⟨trivial, ⟨⟨trivial, (s_l04Read.ok4 hE)⟩, trivial⟩⟩⟩⟩
theorem s_l04Read.hE : EOk Tryz.prog (s_l04Read.E) := EOk.of ttOk (⟨s_l04Segments.fok, ⟨s_l04Data.fok, ⟨s_l02Frames.fok, ⟨s_l02Reader_number.fok, ⟨s_l04Name.fok, trivial⟩⟩⟩⟩⟩)
theorem s_l04Read.fok : FOk Tryz.prog 94 s_l04Read.fi :=
  fokS (E := s_l04Read.E) (wy := ⟨[[none, some (.str, true), some (.str, true), none], [none]], [[]], []⟩) (h := (fun gs => .n (.a) (.n (.a) (.n (.a) (.n (.n (.a) (.b (.s (s_l04Read.S4)))) (.a)))))) (G := fun t g => s_l04Read.F (fun y0 y1 y2 y3 y4 => g (y0, y1, y2, y3, y4)) t.1.1 t.1.2.1) (by kernel_rfl) s_l04Read.hE Tryz.func94 (by kernel_rfl) rfl (Nat.le_refl _) (fun t => HintOk.n1 (by kernel_rfl) (s_l04Read.hok s_l04Read.hE)) (fun t g => s_l04Read_nat g t.1.1 t.1.2.1) (fun t => by kernel_rfl)
/-! loop.example_g00220_spec.l04Check -/
def s_l04Check.F {R : Type} (kk : Int → List ByteArray → List ByteArray → Int → Int → Option R) (d_Room : Int) (d_Files : List (El kFile)) (data : ByteArray) : Option R :=
  cond (decide ((ByteArray.size data : Int) > (65536 : Int))) (kk (0 : Int) [] [] (0 : Int) (2 : Int)) (
    (s_DiskOK d_Room d_Files).bind fun r =>
    cond (!r) (kk (0 : Int) [] [] (0 : Int) (1 : Int)) (
      (s_l01In (ByteArray.size data : Int) (1 : Int) (110 : Int)).bind fun r1 =>
      cond (!r1) (kk (0 : Int) [] [] (0 : Int) (4 : Int)) (
        (s_l04Read d_Room d_Files).bind fun r2 =>
        (s_l04Segments d_Room d_Files).bind fun r3 =>
        cond (r2.2.2.2.2 != (0 : Int)) (kk r2.1 r2.2.1 r2.2.2.1 r2.2.2.2.1 r2.2.2.2.2) (
          cond (decide (r2.2.2.2.1 > (0 : Int))) (kk r2.1 r2.2.1 r2.2.2.1 r2.2.2.2.1 (16 : Int)) (
            cond (decide ((List.length r2.2.1 : Int) ≥ (60 : Int))) (kk r2.1 r2.2.1 r2.2.2.1 r2.2.2.2.1 (6 : Int)) (
              cond (decide ((List.length r3 : Int) > (0 : Int))) (
                grd (gIx (IntKind.wrap .i64 ((List.length r3 : Int) - (1 : Int))) (List.length r3)) <|
                cond ((rdE (.int .i64 : Kd) r3 (Int.toNat (IntKind.wrap .i64 ((List.length r3 : Int) - (1 : Int))))) == (99 : Int)) (kk r2.1 r2.2.1 r2.2.2.1 r2.2.2.2.1 (6 : Int)) (kk r2.1 r2.2.1 r2.2.2.1 r2.2.2.2.1 (0 : Int))) (kk r2.1 r2.2.1 r2.2.2.1 r2.2.2.2.1 (0 : Int))))))))
theorem s_l04Check.F_nat {R S : Type} (g : R → Option S) (kk : Int → List ByteArray → List ByteArray → Int → Int → Option R) (d_Room : Int) (d_Files : List (El kFile)) (data : ByteArray) : s_l04Check.F (fun y0 y1 y2 y3 y4 => (kk y0 y1 y2 y3 y4).bind g) d_Room d_Files data = (s_l04Check.F kk d_Room d_Files data).bind g := by
  simp only [s_l04Check.F, grd_bind, cnd_bind, bnd_bind, non_bind]
def s_l04Check (d_Room : Int) (d_Files : List (El kFile)) (data : ByteArray) : Option (Int × List ByteArray × List ByteArray × Int × Int) := s_l04Check.F (fun y0 y1 y2 y3 y4 => some (y0, y1, y2, y3, y4)) d_Room d_Files data
theorem s_l04Check_nat {S : Type} (g : (Int × List ByteArray × List ByteArray × Int × Int) → Option S) (d_Room : Int) (d_Files : List (El kFile)) (data : ByteArray) : s_l04Check.F (fun y0 y1 y2 y3 y4 => g (y0, y1, y2, y3, y4)) d_Room d_Files data = (s_l04Check d_Room d_Files data).bind g := s_l04Check.F_nat g (fun y0 y1 y2 y3 y4 => some (y0, y1, y2, y3, y4)) d_Room d_Files data
def s_l04Check.out : (Int × List ByteArray × List ByteArray × Int × Int) → CRes := fun a => ⟨encL SV.enc [.agg [.int .i64, .own [] .str true, .own [] .str true, .int .i64], .one (.int .i64)] ((a.1, a.2.1, a.2.2.1, a.2.2.2.1, ()), a.2.2.2.2, ()), [encL SC.enc [] (), encL SC.enc [] ()]⟩
def s_l04Check.ps : List PS := [.val [none, some (kFile, false)], .val [none]]
def s_l04Check.sA : List SA := [.v (.agg [.int .i64, .slv [] kFile]), .v (.one (.str))]
def s_l04Check.fi : FI := FIs s_l04Check.sA (Int × List ByteArray × List ByteArray × Int × Int) (fun t => s_l04Check t.1.1 t.1.2.1 t.2.1) s_l04Check.out s_l04Check.ps
def s_l04Check.E : Env := ⟨tt, lkF [(59, s_l01In.fi), (73, s_DiskOK.fi), (94, s_l04Read.fi), (95, s_l04Segments.fi)], 60, 0, [], []⟩
theorem s_l04Check.hok (hE : EOk Tryz.prog (s_l04Check.E)) : HintOk Tryz.prog s_l04Check.E (bodyOf Tryz.f60) (.a) := HintOk.n1 (Q := True) (by kernel_rfl) trivial
theorem s_l04Check.hE : EOk Tryz.prog (s_l04Check.E) := EOk.of ttOk (⟨s_l01In.fok, ⟨s_DiskOK.fok, ⟨s_l04Read.fok, ⟨s_l04Segments.fok, trivial⟩⟩⟩⟩)
theorem s_l04Check.fok : FOk Tryz.prog 60 s_l04Check.fi :=
  fokS (E := s_l04Check.E) (wy := ⟨[[none, some (.str, true), some (.str, true), none], [none]], [[], []], []⟩) (h := (fun gs => .a)) (G := fun t g => s_l04Check.F (fun y0 y1 y2 y3 y4 => g (y0, y1, y2, y3, y4)) t.1.1 t.1.2.1 t.2.1) (by kernel_rfl) s_l04Check.hE Tryz.func60 (by kernel_rfl) rfl (Nat.le_refl _) (fun t => HintOk.n1 (by kernel_rfl) (s_l04Check.hok s_l04Check.hE)) (fun t g => s_l04Check_nat g t.1.1 t.1.2.1 t.2.1) (fun t => by kernel_rfl)
end
end Go.Proofs.YtaanadbpnmcbcaaGreatDoorA
