/-
  Functions of the program, and that the small machine's runs are these. No condition.
  Printed by wip/amp/main.py (a session's own program) out of Lean's print of the program; Lean's kernel checks it.
-/
import Derived.Test.YtaanadbpnmcbcaaGreatDoorXwF0
namespace Go.Proofs.YtaanadbpnmcbcaaGreatDoorA
open Go
noncomputable section
set_option linter.unusedVariables false
set_option linter.unusedSimpArgs false
set_option maxRecDepth 100000

/-! loop.example_g00220_spec.l04Forget -/
def s_l04Forget.l1 {R : Type} (kke0 : Int → List (El kFile) → Int → Option R) : Nat → Int → Int → Int → List (El kFile) → Int → List Int → Option R
  | 0, _, _, _, _, _, _ => none
  | n + 1, below, i, d, d1, i1, list =>
    cond (decide ((IntKind.wrap .i64 (i + (1 : Int))) < (List.length list : Int))) (
      grd (gIx (IntKind.wrap .i64 (i + (1 : Int))) (List.length list)) <|
      (s_l04Data d d1 (rdE (.int .i64 : Kd) list (Int.toNat (IntKind.wrap .i64 (i + (1 : Int)))))).bind fun r =>
      (s_l02Frames (bytesL r)).bind fun r1 =>
      cond ((List.length r1.1 : Int) == (0 : Int)) (kke0 d d1 i1) (
        grd (gIx (0 : Int) (List.length r1.1)) <|
        (s_l02Reader_number (bytesL (rdE (.str : Kd) r1.1 (Int.toNat (0 : Int)))) (0 : Int) false (4 : Int)).bind fun r2 =>
        cond (decide (r2.1 > below)) (kke0 d d1 i1) (
          grd (gIx i (List.length list)) <|
          (s_l04Name (rdE (.int .i64 : Kd) list (Int.toNat i))).bind fun r3 =>
          (s_l03Step d d1 (4 : Int) (0 : Int) r3 ByteArray.empty ByteArray.empty []).bind fun r4 =>
          s_l04Forget.l1 kke0 n below (IntKind.wrap .i64 (i + (1 : Int))) r4.1 r4.2.1 i1 list))) (kke0 d d1 i1)
theorem s_l04Forget.l1_nat {R S : Type} (g : R → Option S) (kke0 : Int → List (El kFile) → Int → Option R) : ∀ (n : Nat) (below : Int) (i : Int) (d : Int) (d1 : List (El kFile)) (i1 : Int) (list : List Int), s_l04Forget.l1 (fun y0 y1 y2 => (kke0 y0 y1 y2).bind g) n below i d d1 i1 list = (s_l04Forget.l1 kke0 n below i d d1 i1 list).bind g := by
  intro n
  induction n with
  | zero => intros; rfl
  | succ n ih => intros; simp only [s_l04Forget.l1, grd_bind, cnd_bind, bnd_bind, non_bind, ih]
def s_l04Forget.F {R : Type} (kk : Int → List (El kFile) → Option R) (d_Room : Int) (d_Files : List (El kFile)) (below : Int) : Option R :=
  (s_l04Segments d_Room d_Files).bind fun r =>
  s_l04Forget.l1 (fun d d1 i => kk d d1) fuel below (0 : Int) d_Room d_Files (0 : Int) r
theorem s_l04Forget.F_nat {R S : Type} (g : R → Option S) (kk : Int → List (El kFile) → Option R) (d_Room : Int) (d_Files : List (El kFile)) (below : Int) : s_l04Forget.F (fun y0 y1 => (kk y0 y1).bind g) d_Room d_Files below = (s_l04Forget.F kk d_Room d_Files below).bind g := by
  simp only [s_l04Forget.F, grd_bind, cnd_bind, bnd_bind, non_bind, ← s_l04Forget.l1_nat]
def s_l04Forget (d_Room : Int) (d_Files : List (El kFile)) (below : Int) : Option (Int × List (El kFile)) := s_l04Forget.F (fun y0 y1 => some (y0, y1)) d_Room d_Files below
theorem s_l04Forget_nat {S : Type} (g : (Int × List (El kFile)) → Option S) (d_Room : Int) (d_Files : List (El kFile)) (below : Int) : s_l04Forget.F (fun y0 y1 => g (y0, y1)) d_Room d_Files below = (s_l04Forget d_Room d_Files below).bind g := s_l04Forget.F_nat g (fun y0 y1 => some (y0, y1)) d_Room d_Files below
def s_l04Forget.out : (Int × List (El kFile)) → CRes := fun a => ⟨encL SV.enc [.agg [.int .i64, .slv [0, 1] kFile]] ((a.1, a.2, ()), ()), [encL SC.enc [] (), encL SC.enc [] ()]⟩
def s_l04Forget.ps : List PS := [.val [none, some (kFile, false)], .val [none]]
def s_l04Forget.sA : List SA := [.v (.agg [.int .i64, .slv [] kFile]), .v (.one (.int .i64))]
def s_l04Forget.fi : FI := FIs s_l04Forget.sA (Int × List (El kFile)) (fun t => s_l04Forget t.1.1 t.1.2.1 t.2.1) s_l04Forget.out s_l04Forget.ps
def s_l04Forget.E : Env := ⟨tt, lkF [(74, s_l03Step.fi), (95, s_l04Segments.fi), (96, s_l04Data.fi), (97, s_l02Frames.fi), (98, s_l02Reader_number.fi), (99, s_l04Name.fi)], 60, 0, [], []⟩
def s_l04Forget.sh1 : SK := ⟨[.v (.one (.int .i64)), .v (.one (.bptr 0 0)), .v (.one (.bptr 1 0)), .v (.one (.slo 2)), .v (.one (.int .i64))], [.box [.int .i64, .slv [0, 1] kFile], .box [.int .i64, .nil], .arr (.int .i64) [] true]⟩
def s_l04Forget.sh1e0 : SK := ⟨[.v (.one (.bptr 0 0)), .v (.one (.bptr 1 0))], [.box [.int .i64, .slv [0, 1] kFile], .box [.int .i64, .nil]]⟩
def s_l04Forget.ko1 : Ex → List CastAt × List Nat
  | .nrm => ([], [])
  | .ret => ([], [])
  | .ext i => cond (Nat.beq i 0) ([⟨2, true, 1, .slv [0, 1] kFile⟩], [2, 4]) ([], [])
def s_l04Forget.G1 (n : Nat) (R : Type) (t : s_l04Forget.sh1.T) (K : Ex → Kp → Option R) : Option R := s_l04Forget.l1 (fun y0 y1 y2 => K (.ext 0) (SK.enc s_l04Forget.sh1e0 (((), (), ()), ((y0, y1, ()), (y2, (), ()), ())))) n t.1.1 t.1.2.2.2.2.1 t.2.1.1 t.2.1.2.1 t.2.2.1.1 t.2.2.2.1
def s_l04Forget.S1 : Sum := ⟨([⟨2, true, 1, .slv [0, 1] kFile⟩], [1, 2, 4, 5, 6]), sumF s_l04Forget.sh1 (s_l04Forget.G1 fuel), s_l04Forget.ko1⟩
theorem s_l04Forget.ok1 (hE : EOk Tryz.prog (s_l04Forget.E)) : SumOk Tryz.prog s_l04Forget.E (cB (cR (cL (cR (cR (bodyOf Tryz.f51)))))) (s_l04Forget.S1) := by
  have hh : HintOk Tryz.prog s_l04Forget.E (cB (cB (cR (cL (cR (cR (bodyOf Tryz.f51))))))) (.a) := HintOk.n1 (Q := True) (by kernel_rfl) trivial
  have h := loopS (kin := ([⟨2, true, 1, .slv [0, 1] kFile⟩], [1, 2, 4, 5, 6])) (kout := s_l04Forget.ko1) (sh := s_l04Forget.sh1) (F := s_l04Forget.G1) (ops_ok (hE.gv _)) (by kernel_rfl) hh (fun _ _ _ => rfl) (fun n R t K => by kernel_rfl) fuel
  exact HintOk.n1 (c := (cB (cR (cL (cR (cR (bodyOf Tryz.f51))))))) (h := .s (s_l04Forget.S1)) (P := Tryz.prog) (E := s_l04Forget.E) (by kernel_rfl) h
theorem s_l04Forget.hok (hE : EOk Tryz.prog (s_l04Forget.E)) : HintOk Tryz.prog s_l04Forget.E (bodyOf Tryz.f51) (.n (.a) (.n (.a) (.n (.n (.a) (.b (.s (s_l04Forget.S1)))) (.a)))) := HintOk.n1 (Q := (True) ∧ ((True) ∧ (((True) ∧ (SumOk Tryz.prog s_l04Forget.E (cB (cR (cL (cR (cR (bodyOf Tryz.f51)))))) (s_l04Forget.S1))) ∧ (True)))) (by kernel_rfl) ⟨trivial, ⟨trivial, ⟨⟨trivial, (s_l04Forget.ok1 hE)⟩, trivial⟩⟩⟩
theorem s_l04Forget.hE : EOk Tryz.prog (s_l04Forget.E) := EOk.of ttOk (⟨s_l03Step.fok, ⟨s_l04Segments.fok, ⟨s_l04Data.fok, ⟨s_l02Frames.fok, ⟨s_l02Reader_number.fok, ⟨s_l04Name.fok, trivial⟩⟩⟩⟩⟩⟩)
theorem s_l04Forget.fok : FOk Tryz.prog 51 s_l04Forget.fi :=
  fokS (E := s_l04Forget.E) (wy := ⟨[[none, some (kFile, false)]], [[], []], []⟩) (h := (fun gs => .n (.a) (.n (.a) (.n (.n (.a) (.b (.s (s_l04Forget.S1)))) (.a))))) (G := fun t g => s_l04Forget.F (fun y0 y1 => g (y0, y1)) t.1.1 t.1.2.1 t.2.1) (by kernel_rfl) s_l04Forget.hE Tryz.func51 (by kernel_rfl) rfl (Nat.le_refl _) (fun t => HintOk.n1 (by kernel_rfl) (s_l04Forget.hok s_l04Forget.hE)) (fun t g => s_l04Forget_nat g t.1.1 t.1.2.1 t.2.1) (fun t => by kernel_rfl)
/-! loop.example_g00220_spec.WalForget -/
def s_WalForget.F {R : Type} (kk : Int → List (El kFile) → Int → Option R) (d_Room : Int) (d_Files : List (El kFile)) (below : Int) : Option R :=
  (s_WalRead d_Room d_Files).bind fun r =>
  cond (r.2.2.2.2 != (0 : Int)) (kk (0 : Int) [] r.2.2.2.2) (
    cond (decide (below < (0 : Int))) (kk (0 : Int) [] (4 : Int)) (
      (s_l04Forget d_Room d_Files below).bind fun r1 =>
      (s_l03Own r1.1 r1.2).bind fun r2 =>
      kk r2.1 r2.2 (0 : Int)))
theorem s_WalForget.F_nat {R S : Type} (g : R → Option S) (kk : Int → List (El kFile) → Int → Option R) (d_Room : Int) (d_Files : List (El kFile)) (below : Int) : s_WalForget.F (fun y0 y1 y2 => (kk y0 y1 y2).bind g) d_Room d_Files below = (s_WalForget.F kk d_Room d_Files below).bind g := by
  simp only [s_WalForget.F, grd_bind, cnd_bind, bnd_bind, non_bind]
def s_WalForget (d_Room : Int) (d_Files : List (El kFile)) (below : Int) : Option (Int × List (El kFile) × Int) := s_WalForget.F (fun y0 y1 y2 => some (y0, y1, y2)) d_Room d_Files below
theorem s_WalForget_nat {S : Type} (g : (Int × List (El kFile) × Int) → Option S) (d_Room : Int) (d_Files : List (El kFile)) (below : Int) : s_WalForget.F (fun y0 y1 y2 => g (y0, y1, y2)) d_Room d_Files below = (s_WalForget d_Room d_Files below).bind g := s_WalForget.F_nat g (fun y0 y1 y2 => some (y0, y1, y2)) d_Room d_Files below
def s_WalForget.out : (Int × List (El kFile) × Int) → CRes := fun a => ⟨encL SV.enc [.agg [.int .i64, .own [] kFile true], .one (.int .i64)] ((a.1, a.2.1, ()), a.2.2, ()), [encL SC.enc [] (), encL SC.enc [] ()]⟩
def s_WalForget.ps : List PS := [.val [none, some (kFile, false)], .val [none]]
def s_WalForget.sA : List SA := [.v (.agg [.int .i64, .slv [] kFile]), .v (.one (.int .i64))]
def s_WalForget.fi : FI := FIs s_WalForget.sA (Int × List (El kFile) × Int) (fun t => s_WalForget t.1.1 t.1.2.1 t.2.1) s_WalForget.out s_WalForget.ps
def s_WalForget.E : Env := ⟨tt, lkF [(49, s_WalRead.fi), (50, s_l03Own.fi), (51, s_l04Forget.fi)], 24, 0, [], []⟩
theorem s_WalForget.hok (hE : EOk Tryz.prog (s_WalForget.E)) : HintOk Tryz.prog s_WalForget.E (bodyOf Tryz.f11) (.a) := HintOk.n1 (Q := True) (by kernel_rfl) trivial
theorem s_WalForget.hE : EOk Tryz.prog (s_WalForget.E) := EOk.of ttOk (⟨s_WalRead.fok, ⟨s_l03Own.fok, ⟨s_l04Forget.fok, trivial⟩⟩⟩)
theorem s_WalForget.fok : FOk Tryz.prog 11 s_WalForget.fi :=
  fokS (E := s_WalForget.E) (wy := ⟨[[none, some (kFile, true)], [none]], [[], []], []⟩) (h := (fun gs => .a)) (G := fun t g => s_WalForget.F (fun y0 y1 y2 => g (y0, y1, y2)) t.1.1 t.1.2.1 t.2.1) (by kernel_rfl) s_WalForget.hE Tryz.func11 (by kernel_rfl) rfl (Nat.le_refl _) (fun t => HintOk.n1 (by kernel_rfl) (s_WalForget.hok s_WalForget.hE)) (fun t g => s_WalForget_nat g t.1.1 t.1.2.1 t.2.1) (fun t => by kernel_rfl)
/-! loop.example_g00220_laws.toFile -/
def l_toFile.F {R : Type} (kk : ByteArray → ByteArray → Int → Option R) (a_Name : ByteArray) (a_Data : ByteArray) (a_Sure : Int) : Option R :=
  kk a_Name a_Data a_Sure
theorem l_toFile.F_nat {R S : Type} (g : R → Option S) (kk : ByteArray → ByteArray → Int → Option R) (a_Name : ByteArray) (a_Data : ByteArray) (a_Sure : Int) : l_toFile.F (fun y0 y1 y2 => (kk y0 y1 y2).bind g) a_Name a_Data a_Sure = (l_toFile.F kk a_Name a_Data a_Sure).bind g := by
  simp only [l_toFile.F, grd_bind, cnd_bind, bnd_bind, non_bind]
def l_toFile (a_Name : ByteArray) (a_Data : ByteArray) (a_Sure : Int) : Option (ByteArray × ByteArray × Int) := l_toFile.F (fun y0 y1 y2 => some (y0, y1, y2)) a_Name a_Data a_Sure
theorem l_toFile_nat {S : Type} (g : (ByteArray × ByteArray × Int) → Option S) (a_Name : ByteArray) (a_Data : ByteArray) (a_Sure : Int) : l_toFile.F (fun y0 y1 y2 => g (y0, y1, y2)) a_Name a_Data a_Sure = (l_toFile a_Name a_Data a_Sure).bind g := l_toFile.F_nat g (fun y0 y1 y2 => some (y0, y1, y2)) a_Name a_Data a_Sure
def l_toFile.out : (ByteArray × ByteArray × Int) → CRes := fun a => ⟨encL SV.enc [.agg [.str, .str, .int .i64]] ((a.1, a.2.1, a.2.2, ()), ()), [encL SC.enc [] ()]⟩
def l_toFile.ps : List PS := [.val [none, none, none]]
def l_toFile.sA : List SA := [.v (.agg [.str, .str, .int .i64])]
def l_toFile.fi : FI := FIs l_toFile.sA (ByteArray × ByteArray × Int) (fun t => l_toFile t.1.1 t.1.2.1 t.1.2.2.1) l_toFile.out l_toFile.ps
def l_toFile.E : Env := ⟨tt, lkF [], 14, 0, [], []⟩
theorem l_toFile.hok (hE : EOk Tryz.prog (l_toFile.E)) : HintOk Tryz.prog l_toFile.E (bodyOf Tryz.f100) (.a) := HintOk.n1 (Q := True) (by kernel_rfl) trivial
theorem l_toFile.hE : EOk Tryz.prog (l_toFile.E) := EOk.of ttOk (trivial)
theorem l_toFile.fok : FOk Tryz.prog 100 l_toFile.fi :=
  fokS (E := l_toFile.E) (wy := ⟨[[none, none, none]], [[]], []⟩) (h := (fun gs => .a)) (G := fun t g => l_toFile.F (fun y0 y1 y2 => g (y0, y1, y2)) t.1.1 t.1.2.1 t.1.2.2.1) (by kernel_rfl) l_toFile.hE Tryz.func100 (by kernel_rfl) rfl (Nat.le_refl _) (fun t => HintOk.n1 (by kernel_rfl) (l_toFile.hok l_toFile.hE)) (fun t g => l_toFile_nat g t.1.1 t.1.2.1 t.1.2.2.1) (fun t => by kernel_rfl)
/-! loop.example_g00220_laws.toFileS -/
def l_toFileS.l1 {R : Type} (kke0 : List (El kFile) → Option R) : Nat → List (El kFile) → Int → List (El kFile) → Option R
  | 0, _, _, _ => none
  | n + 1, a, i, out =>
    cond (decide (i < (List.length a : Int))) (
      grd (gIx i (List.length a)) <|
      (l_toFile ((rdE kFile a (Int.toNat i)).1) ((rdE kFile a (Int.toNat i)).2.1) ((rdE kFile a (Int.toNat i)).2.2)).bind fun r =>
      grd (gIx i (List.length out)) <|
      l_toFileS.l1 kke0 n a (IntKind.wrap .i64 (i + (1 : Int))) (setE kFile out (Int.toNat i) r)) (kke0 out)
theorem l_toFileS.l1_nat {R S : Type} (g : R → Option S) (kke0 : List (El kFile) → Option R) : ∀ (n : Nat) (a : List (El kFile)) (i : Int) (out : List (El kFile)), l_toFileS.l1 (fun y0 => (kke0 y0).bind g) n a i out = (l_toFileS.l1 kke0 n a i out).bind g := by
  intro n
  induction n with
  | zero => intros; rfl
  | succ n ih => intros; simp only [l_toFileS.l1, grd_bind, cnd_bind, bnd_bind, non_bind, ih]
def l_toFileS.F {R : Type} (kk : List (El kFile) → Option R) (a : List (El kFile)) : Option R :=
  grd (gMk (List.length a : Int) (List.length a : Int) 40) <|
  l_toFileS.l1 (fun out => kk out) fuel a (0 : Int) (List.replicate (Int.toNat (List.length a : Int)) (ByteArray.empty, (ByteArray.empty, (0 : Int))))
theorem l_toFileS.F_nat {R S : Type} (g : R → Option S) (kk : List (El kFile) → Option R) (a : List (El kFile)) : l_toFileS.F (fun y0 => (kk y0).bind g) a = (l_toFileS.F kk a).bind g := by
  simp only [l_toFileS.F, grd_bind, cnd_bind, bnd_bind, non_bind, ← l_toFileS.l1_nat]
def l_toFileS (a : List (El kFile)) : Option (List (El kFile)) := l_toFileS.F (fun y0 => some y0) a
theorem l_toFileS_nat {S : Type} (g : (List (El kFile)) → Option S) (a : List (El kFile)) : l_toFileS.F (fun y0 => g y0) a = (l_toFileS a).bind g := l_toFileS.F_nat g (fun y0 => some y0) a
def l_toFileS.out : (List (El kFile)) → CRes := fun a => ⟨encL SV.enc [.one (.own [] kFile true)] (a, ()), [encL SC.enc [] ()]⟩
def l_toFileS.ps : List PS := [.val [some (kFile, false)]]
def l_toFileS.sA : List SA := [.v (.one (.slv [] kFile))]
def l_toFileS.fi : FI := FIs l_toFileS.sA (List (El kFile)) (fun t => l_toFileS t.1) l_toFileS.out l_toFileS.ps
def l_toFileS.E : Env := ⟨tt, lkF [(100, l_toFile.fi)], 23, 0, [], []⟩
def l_toFileS.sh1 : SK := ⟨[.v (.one (.slv [1] kFile)), .v (.one (.slo 0)), .v (.one (.int .i64))], [.arr kFile [] true]⟩
def l_toFileS.sh1e0 : SK := ⟨[.v (.one (.slo 0))], [.arr kFile [] true]⟩
def l_toFileS.ko1 : Ex → List CastAt × List Nat
  | .nrm => ([], [])
  | .ret => ([], [])
  | .ext i => cond (Nat.beq i 0) ([], [3]) ([], [])
def l_toFileS.G1 (n : Nat) (R : Type) (t : l_toFileS.sh1.T) (K : Ex → Kp → Option R) : Option R := l_toFileS.l1 (fun y0 => K (.ext 0) (SK.enc l_toFileS.sh1e0 (((), ()), (y0, ())))) n t.1.1 t.1.2.2.1 t.2.1
def l_toFileS.S1 : Sum := ⟨([], [0, 3, 4]), sumF l_toFileS.sh1 (l_toFileS.G1 fuel), l_toFileS.ko1⟩
theorem l_toFileS.ok1 (hE : EOk Tryz.prog (l_toFileS.E)) : SumOk Tryz.prog l_toFileS.E (cB (cR (cL (cR (cR (bodyOf Tryz.f52)))))) (l_toFileS.S1) := by
  have hh : HintOk Tryz.prog l_toFileS.E (cB (cB (cR (cL (cR (cR (bodyOf Tryz.f52))))))) (.a) := HintOk.n1 (Q := True) (by kernel_rfl) trivial
  have h := loopS (kin := ([], [0, 3, 4])) (kout := l_toFileS.ko1) (sh := l_toFileS.sh1) (F := l_toFileS.G1) (ops_ok (hE.gv _)) (by kernel_rfl) hh (fun _ _ _ => rfl) (fun n R t K => by kernel_rfl) fuel
  exact HintOk.n1 (c := (cB (cR (cL (cR (cR (bodyOf Tryz.f52))))))) (h := .s (l_toFileS.S1)) (P := Tryz.prog) (E := l_toFileS.E) (by kernel_rfl) h
theorem l_toFileS.hok (hE : EOk Tryz.prog (l_toFileS.E)) : HintOk Tryz.prog l_toFileS.E (bodyOf Tryz.f52) (.n (.a) (.n (.a) (.n (.n (.a) (.b (.s (l_toFileS.S1)))) (.a)))) := HintOk.n1 (Q := (True) ∧ ((True) ∧ (((True) ∧ (SumOk Tryz.prog l_toFileS.E (cB (cR (cL (cR (cR (bodyOf Tryz.f52)))))) (l_toFileS.S1))) ∧ (True)))) (by kernel_rfl) ⟨trivial, ⟨trivial, ⟨⟨trivial, (l_toFileS.ok1 hE)⟩, trivial⟩⟩⟩
theorem l_toFileS.hE : EOk Tryz.prog (l_toFileS.E) := EOk.of ttOk (⟨l_toFile.fok, trivial⟩)
theorem l_toFileS.fok : FOk Tryz.prog 52 l_toFileS.fi :=
  fokS (E := l_toFileS.E) (wy := ⟨[[some (kFile, true)]], [[]], []⟩) (h := (fun gs => .n (.a) (.n (.a) (.n (.n (.a) (.b (.s (l_toFileS.S1)))) (.a))))) (G := fun t g => l_toFileS.F (fun y0 => g y0) t.1) (by kernel_rfl) l_toFileS.hE Tryz.func52 (by kernel_rfl) rfl (Nat.le_refl _) (fun t => HintOk.n1 (by kernel_rfl) (l_toFileS.hok l_toFileS.hE)) (fun t g => l_toFileS_nat g t.1) (fun t => by kernel_rfl)
/-! loop.example_g00220_laws.toDisk -/
def l_toDisk.F {R : Type} (kk : Int → List (El kFile) → Option R) (a_Room : Int) (a_Files : List (El kFile)) : Option R :=
  (l_toFileS a_Files).bind fun r =>
  kk a_Room r
theorem l_toDisk.F_nat {R S : Type} (g : R → Option S) (kk : Int → List (El kFile) → Option R) (a_Room : Int) (a_Files : List (El kFile)) : l_toDisk.F (fun y0 y1 => (kk y0 y1).bind g) a_Room a_Files = (l_toDisk.F kk a_Room a_Files).bind g := by
  simp only [l_toDisk.F, grd_bind, cnd_bind, bnd_bind, non_bind]
def l_toDisk (a_Room : Int) (a_Files : List (El kFile)) : Option (Int × List (El kFile)) := l_toDisk.F (fun y0 y1 => some (y0, y1)) a_Room a_Files
theorem l_toDisk_nat {S : Type} (g : (Int × List (El kFile)) → Option S) (a_Room : Int) (a_Files : List (El kFile)) : l_toDisk.F (fun y0 y1 => g (y0, y1)) a_Room a_Files = (l_toDisk a_Room a_Files).bind g := l_toDisk.F_nat g (fun y0 y1 => some (y0, y1)) a_Room a_Files
def l_toDisk.out : (Int × List (El kFile)) → CRes := fun a => ⟨encL SV.enc [.agg [.int .i64, .own [] kFile true]] ((a.1, a.2, ()), ()), [encL SC.enc [] ()]⟩
def l_toDisk.ps : List PS := [.val [none, some (kFile, false)]]
def l_toDisk.sA : List SA := [.v (.agg [.int .i64, .slv [] kFile])]
def l_toDisk.fi : FI := FIs l_toDisk.sA (Int × List (El kFile)) (fun t => l_toDisk t.1.1 t.1.2.1) l_toDisk.out l_toDisk.ps
def l_toDisk.E : Env := ⟨tt, lkF [(52, l_toFileS.fi)], 12, 0, [], []⟩
theorem l_toDisk.hok (hE : EOk Tryz.prog (l_toDisk.E)) : HintOk Tryz.prog l_toDisk.E (bodyOf Tryz.f12) (.a) := HintOk.n1 (Q := True) (by kernel_rfl) trivial
theorem l_toDisk.hE : EOk Tryz.prog (l_toDisk.E) := EOk.of ttOk (⟨l_toFileS.fok, trivial⟩)
theorem l_toDisk.fok : FOk Tryz.prog 12 l_toDisk.fi :=
  fokS (E := l_toDisk.E) (wy := ⟨[[none, some (kFile, true)]], [[]], []⟩) (h := (fun gs => .a)) (G := fun t g => l_toDisk.F (fun y0 y1 => g (y0, y1)) t.1.1 t.1.2.1) (by kernel_rfl) l_toDisk.hE Tryz.func12 (by kernel_rfl) rfl (Nat.le_refl _) (fun t => HintOk.n1 (by kernel_rfl) (l_toDisk.hok l_toDisk.hE)) (fun t g => l_toDisk_nat g t.1.1 t.1.2.1) (fun t => by kernel_rfl)
/-! loop.example_g00220_impl.within -/
def i_within.F {R : Type} (kk : Bool → Option R) (n_ : Int) (low : Int) (high : Int) : Option R :=
  cond (decide (n_ ≥ low)) (kk (decide (n_ ≤ high))) (kk false)
theorem i_within.F_nat {R S : Type} (g : R → Option S) (kk : Bool → Option R) (n_ : Int) (low : Int) (high : Int) : i_within.F (fun y0 => (kk y0).bind g) n_ low high = (i_within.F kk n_ low high).bind g := by
  simp only [i_within.F, grd_bind, cnd_bind, bnd_bind, non_bind]
def i_within (n_ : Int) (low : Int) (high : Int) : Option Bool := i_within.F (fun y0 => some y0) n_ low high
theorem i_within_nat {S : Type} (g : Bool → Option S) (n_ : Int) (low : Int) (high : Int) : i_within.F (fun y0 => g y0) n_ low high = (i_within n_ low high).bind g := i_within.F_nat g (fun y0 => some y0) n_ low high
def i_within.out : Bool → CRes := fun a => ⟨encL SV.enc [.one (.bool)] (a, ()), [encL SC.enc [] (), encL SC.enc [] (), encL SC.enc [] ()]⟩
def i_within.ps : List PS := [.val [none], .val [none], .val [none]]
def i_within.sA : List SA := [.v (.one (.int .i64)), .v (.one (.int .i64)), .v (.one (.int .i64))]
def i_within.fi : FI := FIs i_within.sA (Bool) (fun t => i_within t.1 t.2.1 t.2.2.1) i_within.out i_within.ps
def i_within.E : Env := ⟨tt, lkF [], 15, 0, [], []⟩
theorem i_within.hok (hE : EOk Tryz.prog (i_within.E)) : HintOk Tryz.prog i_within.E (bodyOf Tryz.f67) (.a) := HintOk.n1 (Q := True) (by kernel_rfl) trivial
theorem i_within.hE : EOk Tryz.prog (i_within.E) := EOk.of ttOk (trivial)
theorem i_within.fok : FOk Tryz.prog 67 i_within.fi :=
  fokS (E := i_within.E) (wy := ⟨[[none]], [[], [], []], []⟩) (h := (fun gs => .a)) (G := fun t g => i_within.F (fun y0 => g y0) t.1 t.2.1 t.2.2.1) (by kernel_rfl) i_within.hE Tryz.func67 (by kernel_rfl) rfl (Nat.le_refl _) (fun t => HintOk.n1 (by kernel_rfl) (i_within.hok i_within.hE)) (fun t g => i_within_nat g t.1 t.2.1 t.2.2.1) (fun t => by kernel_rfl)
/-! _loop.example_g00220_impl.Disk_.used -/
def i_Disk_used.l1 {R : Type} (kke0 : Int → Option R) : Nat → Int → List (El kFile) → Int → Int → Option R
  | 0, _, _, _, _ => none
  | n + 1, sum, l, i, i1 =>
    cond (decide (i1 < i)) (
      grd (gIx i1 (List.length l)) <|
      i_Disk_used.l1 kke0 n (IntKind.wrap .i64 (sum + (ByteArray.size (rdE kFile l (Int.toNat i1)).2.1 : Int))) l i (IntKind.wrap .i64 (i1 + (1 : Int)))) (kke0 sum)
theorem i_Disk_used.l1_nat {R S : Type} (g : R → Option S) (kke0 : Int → Option R) : ∀ (n : Nat) (sum : Int) (l : List (El kFile)) (i : Int) (i1 : Int), i_Disk_used.l1 (fun y0 => (kke0 y0).bind g) n sum l i i1 = (i_Disk_used.l1 kke0 n sum l i i1).bind g := by
  intro n
  induction n with
  | zero => intros; rfl
  | succ n ih => intros; simp only [i_Disk_used.l1, grd_bind, cnd_bind, bnd_bind, non_bind, ih]
def i_Disk_used.F {R : Type} (kk : Int → Option R) (d_Room : Int) (d_Files : List (El kFile)) : Option R :=
  i_Disk_used.l1 (fun sum => kk sum) fuel (0 : Int) d_Files (List.length d_Files : Int) (0 : Int)
theorem i_Disk_used.F_nat {R S : Type} (g : R → Option S) (kk : Int → Option R) (d_Room : Int) (d_Files : List (El kFile)) : i_Disk_used.F (fun y0 => (kk y0).bind g) d_Room d_Files = (i_Disk_used.F kk d_Room d_Files).bind g := by
  simp only [i_Disk_used.F, grd_bind, cnd_bind, bnd_bind, non_bind, ← i_Disk_used.l1_nat]
def i_Disk_used (d_Room : Int) (d_Files : List (El kFile)) : Option Int := i_Disk_used.F (fun y0 => some y0) d_Room d_Files
theorem i_Disk_used_nat {S : Type} (g : Int → Option S) (d_Room : Int) (d_Files : List (El kFile)) : i_Disk_used.F (fun y0 => g y0) d_Room d_Files = (i_Disk_used d_Room d_Files).bind g := i_Disk_used.F_nat g (fun y0 => some y0) d_Room d_Files
def i_Disk_used.out : Int → CRes := fun a => ⟨encL SV.enc [.one (.int .i64)] (a, ()), [encL SC.enc [] ()]⟩
def i_Disk_used.ps : List PS := [.val [none, some (kFile, false)]]
def i_Disk_used.sA : List SA := [.v (.agg [.int .i64, .slv [] kFile])]
def i_Disk_used.fi : FI := FIs i_Disk_used.sA (Int) (fun t => i_Disk_used t.1.1 t.1.2.1) i_Disk_used.out i_Disk_used.ps
def i_Disk_used.E : Env := ⟨tt, lkF [], 20, 0, [], []⟩
def i_Disk_used.sh1 : SK := ⟨[.v (.one (.int .i64)), .v (.one (.slv [1] kFile)), .v (.one (.int .i64)), .v (.one (.int .i64))], []⟩
def i_Disk_used.sh1e0 : SK := ⟨[.v (.one (.int .i64))], []⟩
def i_Disk_used.ko1 : Ex → List CastAt × List Nat
  | .nrm => ([], [])
  | .ret => ([], [])
  | .ext i => cond (Nat.beq i 0) ([], [3]) ([], [])
def i_Disk_used.G1 (n : Nat) (R : Type) (t : i_Disk_used.sh1.T) (K : Ex → Kp → Option R) : Option R := i_Disk_used.l1 (fun y0 => K (.ext 0) (SK.enc i_Disk_used.sh1e0 ((y0, ()), ()))) n t.1.1 t.1.2.1 t.1.2.2.1 t.1.2.2.2.1
def i_Disk_used.S1 : Sum := ⟨([], [3, 7, 8, 9]), sumF i_Disk_used.sh1 (i_Disk_used.G1 fuel), i_Disk_used.ko1⟩
theorem i_Disk_used.ok1 (hE : EOk Tryz.prog (i_Disk_used.E)) : SumOk Tryz.prog i_Disk_used.E (cB (cR (cL (cR (cR (bodyOf Tryz.f113)))))) (i_Disk_used.S1) := by
  have hh : HintOk Tryz.prog i_Disk_used.E (cB (cB (cR (cL (cR (cR (bodyOf Tryz.f113))))))) (.a) := HintOk.n1 (Q := True) (by kernel_rfl) trivial
  have h := loopS (kin := ([], [3, 7, 8, 9])) (kout := i_Disk_used.ko1) (sh := i_Disk_used.sh1) (F := i_Disk_used.G1) (ops_ok (hE.gv _)) (by kernel_rfl) hh (fun _ _ _ => rfl) (fun n R t K => by kernel_rfl) fuel
  exact HintOk.n1 (c := (cB (cR (cL (cR (cR (bodyOf Tryz.f113))))))) (h := .s (i_Disk_used.S1)) (P := Tryz.prog) (E := i_Disk_used.E) (by kernel_rfl) h
theorem i_Disk_used.hok (hE : EOk Tryz.prog (i_Disk_used.E)) : HintOk Tryz.prog i_Disk_used.E (bodyOf Tryz.f113) (.n (.a) (.n (.a) (.n (.n (.a) (.b (.s (i_Disk_used.S1)))) (.a)))) := HintOk.n1 (Q := (True) ∧ ((True) ∧ (((True) ∧ (SumOk Tryz.prog i_Disk_used.E (cB (cR (cL (cR (cR (bodyOf Tryz.f113)))))) (i_Disk_used.S1))) ∧ (True)))) (by kernel_rfl) ⟨trivial, ⟨trivial, ⟨⟨trivial, (i_Disk_used.ok1 hE)⟩, trivial⟩⟩⟩
theorem i_Disk_used.hE : EOk Tryz.prog (i_Disk_used.E) := EOk.of ttOk (trivial)
theorem i_Disk_used.fok : FOk Tryz.prog 113 i_Disk_used.fi :=
  fokS (E := i_Disk_used.E) (wy := ⟨[[none]], [[]], []⟩) (h := (fun gs => .n (.a) (.n (.a) (.n (.n (.a) (.b (.s (i_Disk_used.S1)))) (.a))))) (G := fun t g => i_Disk_used.F (fun y0 => g y0) t.1.1 t.1.2.1) (by kernel_rfl) i_Disk_used.hE Tryz.func113 (by kernel_rfl) rfl (Nat.le_refl _) (fun t => HintOk.n1 (by kernel_rfl) (i_Disk_used.hok i_Disk_used.hE)) (fun t g => i_Disk_used_nat g t.1.1 t.1.2.1) (fun t => by kernel_rfl)
/-! loop.example_g00220_impl.NameOK -/
def i_NameOK.j1 {R : Type} (kkn : ByteArray → Int → Int → Bool → Int → Int → Option R) (t_ : ByteArray) (i : Int) (b : Int) (i1 : Int) (i2 : Int) : Option R :=
  cond (decide (b ≥ (97 : Int))) (
    cond (decide (b ≤ (122 : Int))) (kkn t_ i b true i1 i2) (
      cond (decide (b ≥ (65 : Int))) (cond (decide (b ≤ (90 : Int))) (kkn t_ i b true i1 i2) (kkn t_ i b (b == (95 : Int)) i1 i2)) (kkn t_ i b (b == (95 : Int)) i1 i2))) (
    cond (decide (b ≥ (65 : Int))) (cond (decide (b ≤ (90 : Int))) (kkn t_ i b true i1 i2) (kkn t_ i b (b == (95 : Int)) i1 i2)) (kkn t_ i b (b == (95 : Int)) i1 i2))
theorem i_NameOK.j1_nat {R S : Type} (g : R → Option S) (kkn : ByteArray → Int → Int → Bool → Int → Int → Option R) (t_ : ByteArray) (i : Int) (b : Int) (i1 : Int) (i2 : Int) : i_NameOK.j1 (fun y0 y1 y2 y3 y4 y5 => (kkn y0 y1 y2 y3 y4 y5).bind g) t_ i b i1 i2 = (i_NameOK.j1 kkn t_ i b i1 i2).bind g := by
  simp only [i_NameOK.j1, grd_bind, cnd_bind, bnd_bind, non_bind]
def i_NameOK.l2 {R : Type} (kke0 : ByteArray → Option R) (kkr : Bool → Option R) : Nat → ByteArray → Int → Int → Option R
  | 0, _, _, _ => none
  | n + 1, t_, i, i1 =>
    cond (decide (i1 < i)) (
      grd (gIx i1 (ByteArray.size t_)) <|
      i_NameOK.j1 (fun t_1 i2 b letter i3 i4 =>
        cond (!letter) (
          cond (i2 == (0 : Int)) (kkr false) (
            cond (decide (b < (48 : Int))) (kkr false) (
              cond (decide (b > (57 : Int))) (kkr false) (i_NameOK.l2 kke0 kkr n t_1 i3 (IntKind.wrap .i64 (i4 + (1 : Int))))))) (i_NameOK.l2 kke0 kkr n t_1 i3 (IntKind.wrap .i64 (i4 + (1 : Int))))) t_ i1 (byteAt t_ i1) i i1) (kke0 t_)
theorem i_NameOK.l2_nat {R S : Type} (g : R → Option S) (kke0 : ByteArray → Option R) (kkr : Bool → Option R) : ∀ (n : Nat) (t_ : ByteArray) (i : Int) (i1 : Int), i_NameOK.l2 (fun y0 => (kke0 y0).bind g) (fun y0 => (kkr y0).bind g) n t_ i i1 = (i_NameOK.l2 kke0 kkr n t_ i i1).bind g := by
  intro n
  induction n with
  | zero => intros; rfl
  | succ n ih => intros; simp only [i_NameOK.l2, grd_bind, cnd_bind, bnd_bind, non_bind, ← i_NameOK.j1_nat, ih]
def i_NameOK.F {R : Type} (kk : Bool → Option R) (t_ : ByteArray) : Option R :=
  i_NameOK.l2 (fun t_1 =>
    (i_within (ByteArray.size t_1 : Int) (1 : Int) (40 : Int)).bind fun r =>
    kk r) (fun b => kk b) fuel t_ (ByteArray.size t_ : Int) (0 : Int)
theorem i_NameOK.F_nat {R S : Type} (g : R → Option S) (kk : Bool → Option R) (t_ : ByteArray) : i_NameOK.F (fun y0 => (kk y0).bind g) t_ = (i_NameOK.F kk t_).bind g := by
  simp only [i_NameOK.F, grd_bind, cnd_bind, bnd_bind, non_bind, ← i_NameOK.l2_nat]
def i_NameOK (t_ : ByteArray) : Option Bool := i_NameOK.F (fun y0 => some y0) t_
theorem i_NameOK_nat {S : Type} (g : Bool → Option S) (t_ : ByteArray) : i_NameOK.F (fun y0 => g y0) t_ = (i_NameOK t_).bind g := i_NameOK.F_nat g (fun y0 => some y0) t_
def i_NameOK.out : Bool → CRes := fun a => ⟨encL SV.enc [.one (.bool)] (a, ()), [encL SC.enc [] ()]⟩
def i_NameOK.ps : List PS := [.val [none]]
def i_NameOK.sA : List SA := [.v (.one (.str))]
def i_NameOK.fi : FI := FIs i_NameOK.sA (Bool) (fun t => i_NameOK t.1) i_NameOK.out i_NameOK.ps
def i_NameOK.E : Env := ⟨tt, lkF [(67, i_within.fi)], 50, 0, [], []⟩
def i_NameOK.sh1 : SK := ⟨[.v (.one (.str)), .v (.one (.int .i64)), .v (.one (.int .u8)), .v (.one (.int .i64)), .v (.one (.int .i64))], []⟩
def i_NameOK.sh1n : SK := ⟨[.v (.one (.str)), .v (.one (.int .i64)), .v (.one (.int .u8)), .v (.one (.bool)), .v (.one (.int .i64)), .v (.one (.int .i64))], []⟩
def i_NameOK.ko1 : Ex → List CastAt × List Nat
  | .nrm => ([], [0, 3, 4, 5, 7, 8])
  | .ret => ([], [])
  | .ext i => ([], [])
def i_NameOK.G1 (R : Type) (t : i_NameOK.sh1.T) (K : Ex → Kp → Option R) : Option R := i_NameOK.j1 (fun y0 y1 y2 y3 y4 y5 => K .nrm (SK.enc i_NameOK.sh1n ((y0, y1, y2, y3, y4, y5, ()), ()))) t.1.1 t.1.2.1 t.1.2.2.1 t.1.2.2.2.1 t.1.2.2.2.2.1
def i_NameOK.S1 : Sum := ⟨([], [0, 3, 4, 7, 8]), sumF i_NameOK.sh1 (i_NameOK.G1), i_NameOK.ko1⟩
theorem i_NameOK.ok1 (hE : EOk Tryz.prog (i_NameOK.E)) : SumOk Tryz.prog i_NameOK.E (cL (cR (cR (cB (cL (cR (cR (cB (cB (cR (cL (cR (bodyOf Tryz.f114))))))))))))) (i_NameOK.S1) := by
  have hh : HintOk Tryz.prog i_NameOK.E (cL (cR (cR (cB (cL (cR (cR (cB (cB (cR (cL (cR (bodyOf Tryz.f114))))))))))))) (.a) := HintOk.n1 (Q := True) (by kernel_rfl) trivial
  exact sumS (kin := ([], [0, 3, 4, 7, 8])) (kout := i_NameOK.ko1) (sh := i_NameOK.sh1) (F := i_NameOK.G1) (ops_ok (hE.gv _)) (by kernel_rfl) hh (fun R t K => by kernel_rfl)
def i_NameOK.sh2 : SK := ⟨[.v (.one (.str)), .v (.one (.int .i64)), .v (.one (.int .i64))], []⟩
def i_NameOK.sh2e0 : SK := ⟨[.v (.one (.str))], []⟩
def i_NameOK.sh2r : SK := ⟨[.v (.one (.bool))], []⟩
def i_NameOK.ko2 : Ex → List CastAt × List Nat
  | .nrm => ([], [])
  | .ret => ([], [2])
  | .ext i => cond (Nat.beq i 0) ([], [0]) ([], [])
def i_NameOK.G2 (n : Nat) (R : Type) (t : i_NameOK.sh2.T) (K : Ex → Kp → Option R) : Option R := i_NameOK.l2 (fun y0 => K (.ext 0) (SK.enc i_NameOK.sh2e0 ((y0, ()), ()))) (fun y0 => K .ret (SK.enc i_NameOK.sh2r ((y0, ()), ()))) n t.1.1 t.1.2.1 t.1.2.2.1
def i_NameOK.S2 : Sum := ⟨([], [0, 7, 8]), sumF i_NameOK.sh2 (i_NameOK.G2 fuel), i_NameOK.ko2⟩
theorem i_NameOK.ok2 (hE : EOk Tryz.prog (i_NameOK.E)) : SumOk Tryz.prog i_NameOK.E (cB (cR (cL (cR (bodyOf Tryz.f114))))) (i_NameOK.S2) := by
  have hh : HintOk Tryz.prog i_NameOK.E (cB (cB (cR (cL (cR (bodyOf Tryz.f114)))))) (.n (.a) (.n (.a) (.n (.b (.n (.a) (.n (.a) (.n (.s (i_NameOK.S1)) (.a))))) (.a)))) := HintOk.n1 (Q := (True) ∧ ((True) ∧ (((True) ∧ ((True) ∧ ((SumOk Tryz.prog i_NameOK.E (cL (cR (cR (cB (cL (cR (cR (cB (cB (cR (cL (cR (bodyOf Tryz.f114))))))))))))) (i_NameOK.S1)) ∧ (True)))) ∧ (True)))) (by kernel_rfl) ⟨trivial, ⟨trivial, ⟨⟨trivial, ⟨trivial, ⟨(i_NameOK.ok1 hE), trivial⟩⟩⟩, trivial⟩⟩⟩
  have h := loopS (kin := ([], [0, 7, 8])) (kout := i_NameOK.ko2) (sh := i_NameOK.sh2) (F := i_NameOK.G2) (ops_ok (hE.gv _)) (by kernel_rfl) hh (fun _ _ _ => rfl) (fun n R t K => by kernel_rfl) fuel
  exact HintOk.n1 (c := (cB (cR (cL (cR (bodyOf Tryz.f114)))))) (h := .s (i_NameOK.S2)) (P := Tryz.prog) (E := i_NameOK.E) (by kernel_rfl) h
theorem i_NameOK.hok (hE : EOk Tryz.prog (i_NameOK.E)) : HintOk Tryz.prog i_NameOK.E (bodyOf Tryz.f114) (.n (.a) (.n (.n (.a) (.b (.s (i_NameOK.S2)))) (.a))) := HintOk.n1 (Q := (True) ∧ (((True) ∧ (SumOk Tryz.prog i_NameOK.E (cB (cR (cL (cR (bodyOf Tryz.f114))))) (i_NameOK.S2))) ∧ (True))) (by kernel_rfl) ⟨trivial, ⟨⟨trivial, (i_NameOK.ok2 hE)⟩, trivial⟩⟩
theorem i_NameOK.hE : EOk Tryz.prog (i_NameOK.E) := EOk.of ttOk (⟨i_within.fok, trivial⟩)
theorem i_NameOK.fok : FOk Tryz.prog 114 i_NameOK.fi :=
  fokS (E := i_NameOK.E) (wy := ⟨[[none]], [[]], []⟩) (h := (fun gs => .n (.a) (.n (.n (.a) (.b (.s (i_NameOK.S2)))) (.a)))) (G := fun t g => i_NameOK.F (fun y0 => g y0) t.1) (by kernel_rfl) i_NameOK.hE Tryz.func114 (by kernel_rfl) rfl (Nat.le_refl _) (fun t => HintOk.n1 (by kernel_rfl) (i_NameOK.hok i_NameOK.hE)) (fun t g => i_NameOK_nat g t.1) (fun t => by kernel_rfl)
/-! loop.example_g00220_impl.DiskOK -/
def i_DiskOK.l1 {R : Type} (kke0 : Option R) (kkr : Bool → Option R) : Nat → List (El kFile) → Int → Int → Int → List (El kFile) → Option R
  | 0, _, _, _, _, _ => none
  | n + 1, l, i, i1, d, d1 =>
    cond (decide (i1 < i)) (
      grd (gIx i1 (List.length l)) <|
      (i_NameOK ((rdE kFile l (Int.toNat i1)).1)).bind fun r =>
      cond (!r) (kkr false) (
        cond (decide (i1 > (0 : Int))) (
          grd (gIx (IntKind.wrap .i64 (i1 - (1 : Int))) (List.length d1)) <|
          cond (!(sLt (rdE kFile d1 (Int.toNat (IntKind.wrap .i64 (i1 - (1 : Int))))).1 (rdE kFile l (Int.toNat i1)).1)) (kkr false) (
            (i_within ((rdE kFile l (Int.toNat i1)).2.2) (0 : Int) (ByteArray.size (rdE kFile l (Int.toNat i1)).2.1 : Int)).bind fun r1 =>
            cond (!r1) (kkr false) (i_DiskOK.l1 kke0 kkr n l i (IntKind.wrap .i64 (i1 + (1 : Int))) d d1))) (
          (i_within ((rdE kFile l (Int.toNat i1)).2.2) (0 : Int) (ByteArray.size (rdE kFile l (Int.toNat i1)).2.1 : Int)).bind fun r2 =>
          cond (!r2) (kkr false) (i_DiskOK.l1 kke0 kkr n l i (IntKind.wrap .i64 (i1 + (1 : Int))) d d1)))) (kke0)
theorem i_DiskOK.l1_nat {R S : Type} (g : R → Option S) (kke0 : Option R) (kkr : Bool → Option R) : ∀ (n : Nat) (l : List (El kFile)) (i : Int) (i1 : Int) (d : Int) (d1 : List (El kFile)), i_DiskOK.l1 (kke0.bind g) (fun y0 => (kkr y0).bind g) n l i i1 d d1 = (i_DiskOK.l1 kke0 kkr n l i i1 d d1).bind g := by
  intro n
  induction n with
  | zero => intros; rfl
  | succ n ih => intros; simp only [i_DiskOK.l1, grd_bind, cnd_bind, bnd_bind, non_bind, ih]
def i_DiskOK.F {R : Type} (kk : Bool → Option R) (d_Room : Int) (d_Files : List (El kFile)) : Option R :=
  (i_within d_Room (0 : Int) (3000 : Int)).bind fun r =>
  cond (!r) (kk false) (
    cond (decide ((List.length d_Files : Int) > (8 : Int))) (kk false) (
      (i_Disk_used d_Room d_Files).bind fun r1 =>
      cond (decide (r1 > d_Room)) (kk false) (
        i_DiskOK.l1 (kk true) (fun b => kk b) fuel d_Files (List.length d_Files : Int) (0 : Int) d_Room d_Files)))
theorem i_DiskOK.F_nat {R S : Type} (g : R → Option S) (kk : Bool → Option R) (d_Room : Int) (d_Files : List (El kFile)) : i_DiskOK.F (fun y0 => (kk y0).bind g) d_Room d_Files = (i_DiskOK.F kk d_Room d_Files).bind g := by
  simp only [i_DiskOK.F, grd_bind, cnd_bind, bnd_bind, non_bind, ← i_DiskOK.l1_nat]
def i_DiskOK (d_Room : Int) (d_Files : List (El kFile)) : Option Bool := i_DiskOK.F (fun y0 => some y0) d_Room d_Files
theorem i_DiskOK_nat {S : Type} (g : Bool → Option S) (d_Room : Int) (d_Files : List (El kFile)) : i_DiskOK.F (fun y0 => g y0) d_Room d_Files = (i_DiskOK d_Room d_Files).bind g := i_DiskOK.F_nat g (fun y0 => some y0) d_Room d_Files
def i_DiskOK.out : Bool → CRes := fun a => ⟨encL SV.enc [.one (.bool)] (a, ()), [encL SC.enc [] ()]⟩
def i_DiskOK.ps : List PS := [.val [none, some (kFile, false)]]
def i_DiskOK.sA : List SA := [.v (.agg [.int .i64, .slv [] kFile])]
def i_DiskOK.fi : FI := FIs i_DiskOK.sA (Bool) (fun t => i_DiskOK t.1.1 t.1.2.1) i_DiskOK.out i_DiskOK.ps
def i_DiskOK.E : Env := ⟨tt, lkF [(67, i_within.fi), (113, i_Disk_used.fi), (114, i_NameOK.fi)], 60, 0, [], []⟩
def i_DiskOK.sh1 : SK := ⟨[.v (.one (.bptr 0 0)), .v (.one (.slv [1] kFile)), .v (.one (.int .i64)), .v (.one (.int .i64))], [.box [.int .i64, .slv [1] kFile]]⟩
def i_DiskOK.sh1e0 : SK := ⟨[], []⟩
def i_DiskOK.sh1r : SK := ⟨[.v (.one (.bool))], []⟩
def i_DiskOK.ko1 : Ex → List CastAt × List Nat
  | .nrm => ([], [])
  | .ret => ([], [2])
  | .ext i => cond (Nat.beq i 0) ([], []) ([], [])
def i_DiskOK.G1 (n : Nat) (R : Type) (t : i_DiskOK.sh1.T) (K : Ex → Kp → Option R) : Option R := i_DiskOK.l1 (K (.ext 0) (SK.enc i_DiskOK.sh1e0 ((), ()))) (fun y0 => K .ret (SK.enc i_DiskOK.sh1r ((y0, ()), ()))) n t.1.2.1 t.1.2.2.1 t.1.2.2.2.1 t.2.1.1 t.2.1.2.1
def i_DiskOK.S1 : Sum := ⟨([], [1, 23, 24, 25]), sumF i_DiskOK.sh1 (i_DiskOK.G1 fuel), i_DiskOK.ko1⟩
theorem i_DiskOK.ok1 (hE : EOk Tryz.prog (i_DiskOK.E)) : SumOk Tryz.prog i_DiskOK.E (cB (cR (cL (cR (cR (bodyOf Tryz.f65)))))) (i_DiskOK.S1) := by
  have hh : HintOk Tryz.prog i_DiskOK.E (cB (cB (cR (cL (cR (cR (bodyOf Tryz.f65))))))) (.a) := HintOk.n1 (Q := True) (by kernel_rfl) trivial
  have h := loopS (kin := ([], [1, 23, 24, 25])) (kout := i_DiskOK.ko1) (sh := i_DiskOK.sh1) (F := i_DiskOK.G1) (ops_ok (hE.gv _)) (by kernel_rfl) hh (fun _ _ _ => rfl) (fun n R t K => by kernel_rfl) fuel
  exact HintOk.n1 (c := (cB (cR (cL (cR (cR (bodyOf Tryz.f65))))))) (h := .s (i_DiskOK.S1)) (P := Tryz.prog) (E := i_DiskOK.E) (by kernel_rfl) h
theorem i_DiskOK.hok (hE : EOk Tryz.prog (i_DiskOK.E)) : HintOk Tryz.prog i_DiskOK.E (bodyOf Tryz.f65) (.n (.a) (.n (.a) (.n (.n (.a) (.b (.s (i_DiskOK.S1)))) (.a)))) := HintOk.n1 (Q := (True) ∧ ((True) ∧ (((True) ∧ (SumOk Tryz.prog i_DiskOK.E (cB (cR (cL (cR (cR (bodyOf Tryz.f65)))))) (i_DiskOK.S1))) ∧ (True)))) (by kernel_rfl) ⟨trivial, ⟨trivial, ⟨⟨trivial, (i_DiskOK.ok1 hE)⟩, trivial⟩⟩⟩
theorem i_DiskOK.hE : EOk Tryz.prog (i_DiskOK.E) := EOk.of ttOk (⟨i_within.fok, ⟨i_Disk_used.fok, ⟨i_NameOK.fok, trivial⟩⟩⟩)
theorem i_DiskOK.fok : FOk Tryz.prog 65 i_DiskOK.fi :=
  fokS (E := i_DiskOK.E) (wy := ⟨[[none]], [[]], []⟩) (h := (fun gs => .n (.a) (.n (.a) (.n (.n (.a) (.b (.s (i_DiskOK.S1)))) (.a))))) (G := fun t g => i_DiskOK.F (fun y0 => g y0) t.1.1 t.1.2.1) (by kernel_rfl) i_DiskOK.hE Tryz.func65 (by kernel_rfl) rfl (Nat.le_refl _) (fun t => HintOk.n1 (by kernel_rfl) (i_DiskOK.hok i_DiskOK.hE)) (fun t g => i_DiskOK_nat g t.1.1 t.1.2.1) (fun t => by kernel_rfl)
/-! strings.Trim -/
theorem trim_ex : ∃ f : (ByteArray → ByteArray → ByteArray) × (ByteArray → ByteArray → Bool), f.1 = (fun s c => ⟨(Lib.trimS s.data.toList c.data.toList).toArray⟩) ∧ f.2 = (fun s c => decide (s.size ≤ 9223372036854775807) && (decide (c.size < 4294967281) && c.data.toList.all (fun b => decide (b.toNat < 128)))) := ⟨(_, _), rfl, rfl⟩
/-- Chosen, so that the kernel does not unfold them. -/
noncomputable def trimS : ByteArray → ByteArray → ByteArray := (Classical.choose trim_ex).1
noncomputable def gTrim : ByteArray → ByteArray → Bool := (Classical.choose trim_ex).2
theorem trimS_eq (s c : ByteArray) : trimS s c = ⟨(Lib.trimS s.data.toList c.data.toList).toArray⟩ := congrFun (congrFun (Classical.choose_spec trim_ex).1 s) c
theorem gTrim_eq (s c : ByteArray) : gTrim s c = (decide (s.size ≤ 9223372036854775807) && (decide (c.size < 4294967281) && c.data.toList.all (fun b => decide (b.toNat < 128)))) := congrFun (congrFun (Classical.choose_spec trim_ex).2 s) c
noncomputable def strings_Trim.F {R : Type} (kk : ByteArray → Option R) (s : ByteArray) (c : ByteArray) : Option R := grd (gTrim s c) <| kk (trimS s c)
theorem strings_Trim_ex : ∃ f : ByteArray → ByteArray → Option ByteArray, f = fun s n => strings_Trim.F (fun y0 => some y0) s n := ⟨_, rfl⟩
noncomputable def strings_Trim : ByteArray → ByteArray → Option ByteArray := Classical.choose strings_Trim_ex
theorem strings_Trim_eq (s c : ByteArray) : strings_Trim s c = strings_Trim.F (fun y0 => some y0) s c := congrFun (congrFun (Classical.choose_spec strings_Trim_ex) s) c
def strings_Trim.out : (ByteArray) → CRes := fun a => ⟨encL SV.enc [.one (.str)] (a, ()), [encL SC.enc [] (), encL SC.enc [] ()]⟩
def strings_Trim.ps : List PS := [.val [none], .val [none]]
def strings_Trim.sA : List SA := [.v (.one (.str)), .v (.one (.str))]
noncomputable def strings_Trim.fi : FI := FIs strings_Trim.sA (ByteArray) (fun t => strings_Trim t.1 t.2.1) strings_Trim.out strings_Trim.ps
theorem strings_Trim.fok : FOk Tryz.prog 152 strings_Trim.fi := by
  refine fok_ext ⟨_, _, Tryz.func152, by kernel_rfl, rfl⟩ (by kernel_rfl) (fun a => [.str a]) (fun a => by kernel_rfl) (fun a => by kernel_rfl) (fun t a h w => ?_)
  obtain ⟨s, c, u⟩ := t
  have h' : grd (gTrim s c) (some (trimS s c)) = some a := (strings_Trim_eq s c).symm.trans h
  cases hg : gTrim s c with
  | false => rw [hg] at h'; cases h'
  | true =>
    rw [hg] at h'
    obtain rfl := Option.some.inj h'
    rw [gTrim_eq, Bool.and_eq_true, Bool.and_eq_true, decide_eq_true_iff, decide_eq_true_iff] at hg
    obtain ⟨h0, h1, h2⟩ := hg
    rw [trimS_eq]
    exact Any.strings_Trim_laid Tryz.lays160 (by kernel_rfl) s c w h0 h1 (ascii_of_all h2)
/-! loop.example_g00220_impl.segmentOf -/
def i_segmentOf.F {R : Type} (kk : Int → Option R) (name : ByteArray) : Option R :=
  cond ((ByteArray.size name : Int) != (3 : Int)) (kk (0 : Int)) (
    grd (gIx (0 : Int) (ByteArray.size name)) <|
    cond ((byteAt name (0 : Int)) != (115 : Int)) (kk (0 : Int)) (
      grd (gSl (1 : Int) (ByteArray.size name : Int) (ByteArray.size name)) <|
      (strings_Trim (cut name (1 : Int) (ByteArray.size name : Int)) (⟨#[48, 49, 50, 51, 52, 53, 54, 55, 56, 57]⟩ : ByteArray)).bind fun r =>
      cond (!(sEq r ByteArray.empty)) (kk (0 : Int)) (
        grd (gIx (1 : Int) (ByteArray.size name)) <|
        grd (gIx (2 : Int) (ByteArray.size name)) <|
        kk (IntKind.wrap .i64 ((IntKind.wrap .i64 ((IntKind.wrap .i64 (IntKind.wrap .u8 ((byteAt name (1 : Int)) - (48 : Int)))) * (10 : Int))) + (IntKind.wrap .i64 (IntKind.wrap .u8 ((byteAt name (2 : Int)) - (48 : Int)))))))))
theorem i_segmentOf.F_nat {R S : Type} (g : R → Option S) (kk : Int → Option R) (name : ByteArray) : i_segmentOf.F (fun y0 => (kk y0).bind g) name = (i_segmentOf.F kk name).bind g := by
  simp only [i_segmentOf.F, grd_bind, cnd_bind, bnd_bind, non_bind]
def i_segmentOf (name : ByteArray) : Option Int := i_segmentOf.F (fun y0 => some y0) name
theorem i_segmentOf_nat {S : Type} (g : Int → Option S) (name : ByteArray) : i_segmentOf.F (fun y0 => g y0) name = (i_segmentOf name).bind g := i_segmentOf.F_nat g (fun y0 => some y0) name
def i_segmentOf.out : Int → CRes := fun a => ⟨encL SV.enc [.one (.int .i64)] (a, ()), [encL SC.enc [] ()]⟩
def i_segmentOf.ps : List PS := [.val [none]]
def i_segmentOf.sA : List SA := [.v (.one (.str))]
def i_segmentOf.fi : FI := FIs i_segmentOf.sA (Int) (fun t => i_segmentOf t.1) i_segmentOf.out i_segmentOf.ps
def i_segmentOf.E : Env := ⟨tt, lkF [(152, strings_Trim.fi)], 27, 0, [], []⟩
theorem i_segmentOf.hok (hE : EOk Tryz.prog (i_segmentOf.E)) : HintOk Tryz.prog i_segmentOf.E (bodyOf Tryz.f115) (.a) := HintOk.n1 (Q := True) (by kernel_rfl) trivial
theorem i_segmentOf.hE : EOk Tryz.prog (i_segmentOf.E) := EOk.of ttOk (⟨strings_Trim.fok, trivial⟩)
theorem i_segmentOf.fok : FOk Tryz.prog 115 i_segmentOf.fi :=
  fokS (E := i_segmentOf.E) (wy := ⟨[[none]], [[]], []⟩) (h := (fun gs => .a)) (G := fun t g => i_segmentOf.F (fun y0 => g y0) t.1) (by kernel_rfl) i_segmentOf.hE Tryz.func115 (by kernel_rfl) rfl (Nat.le_refl _) (fun t => HintOk.n1 (by kernel_rfl) (i_segmentOf.hok i_segmentOf.hE)) (fun t g => i_segmentOf_nat g t.1) (fun t => by kernel_rfl)
/-! loop.example_g00220_impl.numberOf -/
def i_numberOf.l1 {R : Type} (kke0 : Int → Option R) : Nat → ByteArray → Int → Int → Int → Option R
  | 0, _, _, _, _ => none
  | n + 1, s, n_, i, i1 =>
    cond (decide (i1 < i)) (
      grd (gSh (8 : Int)) <|
      grd (gIx i1 (ByteArray.size s)) <|
      i_numberOf.l1 kke0 n s (IntKind.wrap .i64 ((iShl .i64 n_ (8 : Int)) + (IntKind.wrap .i64 (byteAt s i1)))) i (IntKind.wrap .i64 (i1 + (1 : Int)))) (kke0 n_)
theorem i_numberOf.l1_nat {R S : Type} (g : R → Option S) (kke0 : Int → Option R) : ∀ (n : Nat) (s : ByteArray) (n_ : Int) (i : Int) (i1 : Int), i_numberOf.l1 (fun y0 => (kke0 y0).bind g) n s n_ i i1 = (i_numberOf.l1 kke0 n s n_ i i1).bind g := by
  intro n
  induction n with
  | zero => intros; rfl
  | succ n ih => intros; simp only [i_numberOf.l1, grd_bind, cnd_bind, bnd_bind, non_bind, ih]
def i_numberOf.F {R : Type} (kk : Int → Option R) (s : ByteArray) : Option R :=
  i_numberOf.l1 (fun n_ => kk n_) fuel s (0 : Int) (ByteArray.size s : Int) (0 : Int)
theorem i_numberOf.F_nat {R S : Type} (g : R → Option S) (kk : Int → Option R) (s : ByteArray) : i_numberOf.F (fun y0 => (kk y0).bind g) s = (i_numberOf.F kk s).bind g := by
  simp only [i_numberOf.F, grd_bind, cnd_bind, bnd_bind, non_bind, ← i_numberOf.l1_nat]
def i_numberOf (s : ByteArray) : Option Int := i_numberOf.F (fun y0 => some y0) s
theorem i_numberOf_nat {S : Type} (g : Int → Option S) (s : ByteArray) : i_numberOf.F (fun y0 => g y0) s = (i_numberOf s).bind g := i_numberOf.F_nat g (fun y0 => some y0) s
def i_numberOf.out : Int → CRes := fun a => ⟨encL SV.enc [.one (.int .i64)] (a, ()), [encL SC.enc [] ()]⟩
def i_numberOf.ps : List PS := [.val [none]]
def i_numberOf.sA : List SA := [.v (.one (.str))]
def i_numberOf.fi : FI := FIs i_numberOf.sA (Int) (fun t => i_numberOf t.1) i_numberOf.out i_numberOf.ps
def i_numberOf.E : Env := ⟨tt, lkF [], 19, 0, [], []⟩
def i_numberOf.sh1 : SK := ⟨[.v (.one (.str)), .v (.one (.int .i64)), .v (.one (.int .i64)), .v (.one (.int .i64))], []⟩
def i_numberOf.sh1e0 : SK := ⟨[.v (.one (.int .i64))], []⟩
def i_numberOf.ko1 : Ex → List CastAt × List Nat
  | .nrm => ([], [])
  | .ret => ([], [])
  | .ext i => cond (Nat.beq i 0) ([], [3]) ([], [])
def i_numberOf.G1 (n : Nat) (R : Type) (t : i_numberOf.sh1.T) (K : Ex → Kp → Option R) : Option R := i_numberOf.l1 (fun y0 => K (.ext 0) (SK.enc i_numberOf.sh1e0 ((y0, ()), ()))) n t.1.1 t.1.2.1 t.1.2.2.1 t.1.2.2.2.1
def i_numberOf.S1 : Sum := ⟨([], [0, 3, 6, 7]), sumF i_numberOf.sh1 (i_numberOf.G1 fuel), i_numberOf.ko1⟩
theorem i_numberOf.ok1 (hE : EOk Tryz.prog (i_numberOf.E)) : SumOk Tryz.prog i_numberOf.E (cB (cR (cL (cR (cR (bodyOf Tryz.f103)))))) (i_numberOf.S1) := by
  have hh : HintOk Tryz.prog i_numberOf.E (cB (cB (cR (cL (cR (cR (bodyOf Tryz.f103))))))) (.a) := HintOk.n1 (Q := True) (by kernel_rfl) trivial
  have h := loopS (kin := ([], [0, 3, 6, 7])) (kout := i_numberOf.ko1) (sh := i_numberOf.sh1) (F := i_numberOf.G1) (ops_ok (hE.gv _)) (by kernel_rfl) hh (fun _ _ _ => rfl) (fun n R t K => by kernel_rfl) fuel
  exact HintOk.n1 (c := (cB (cR (cL (cR (cR (bodyOf Tryz.f103))))))) (h := .s (i_numberOf.S1)) (P := Tryz.prog) (E := i_numberOf.E) (by kernel_rfl) h
theorem i_numberOf.hok (hE : EOk Tryz.prog (i_numberOf.E)) : HintOk Tryz.prog i_numberOf.E (bodyOf Tryz.f103) (.n (.a) (.n (.a) (.n (.n (.a) (.b (.s (i_numberOf.S1)))) (.a)))) := HintOk.n1 (Q := (True) ∧ ((True) ∧ (((True) ∧ (SumOk Tryz.prog i_numberOf.E (cB (cR (cL (cR (cR (bodyOf Tryz.f103)))))) (i_numberOf.S1))) ∧ (True)))) (by kernel_rfl) ⟨trivial, ⟨trivial, ⟨⟨trivial, (i_numberOf.ok1 hE)⟩, trivial⟩⟩⟩
theorem i_numberOf.hE : EOk Tryz.prog (i_numberOf.E) := EOk.of ttOk (trivial)
theorem i_numberOf.fok : FOk Tryz.prog 103 i_numberOf.fi :=
  fokS (E := i_numberOf.E) (wy := ⟨[[none]], [[]], []⟩) (h := (fun gs => .n (.a) (.n (.a) (.n (.n (.a) (.b (.s (i_numberOf.S1)))) (.a))))) (G := fun t g => i_numberOf.F (fun y0 => g y0) t.1) (by kernel_rfl) i_numberOf.hE Tryz.func103 (by kernel_rfl) rfl (Nat.le_refl _) (fun t => HintOk.n1 (by kernel_rfl) (i_numberOf.hok i_numberOf.hE)) (fun t g => i_numberOf_nat g t.1) (fun t => by kernel_rfl)
/-! loop.example_g00220_impl.number -/
def i_number.l1 {R : Type} (kke0 : List Int → Option R) : Nat → Int → Int → List Int → Option R
  | 0, _, _, _ => none
  | n + 1, n_, i, out =>
    cond (decide (i ≥ (0 : Int))) (
      grd (gIx i (List.length out)) <|
      grd (gSh (8 : Int)) <|
      i_number.l1 kke0 n (iShr .i64 n_ (8 : Int)) (IntKind.wrap .i64 (i - (1 : Int))) (setE (.int .u8 : Kd) out (Int.toNat i) (IntKind.wrap .u8 n_))) (kke0 out)
theorem i_number.l1_nat {R S : Type} (g : R → Option S) (kke0 : List Int → Option R) : ∀ (n : Nat) (n_ : Int) (i : Int) (out : List Int), i_number.l1 (fun y0 => (kke0 y0).bind g) n n_ i out = (i_number.l1 kke0 n n_ i out).bind g := by
  intro n
  induction n with
  | zero => intros; rfl
  | succ n ih => intros; simp only [i_number.l1, grd_bind, cnd_bind, bnd_bind, non_bind, ih]
def i_number.F {R : Type} (kk : ByteArray → Option R) (n_ : Int) (many : Int) : Option R :=
  grd (gMk many many 1) <|
  i_number.l1 (fun out => kk (strL out)) fuel n_ (IntKind.wrap .i64 (many - (1 : Int))) (List.replicate (Int.toNat many) (0 : Int))
theorem i_number.F_nat {R S : Type} (g : R → Option S) (kk : ByteArray → Option R) (n_ : Int) (many : Int) : i_number.F (fun y0 => (kk y0).bind g) n_ many = (i_number.F kk n_ many).bind g := by
  simp only [i_number.F, grd_bind, cnd_bind, bnd_bind, non_bind, ← i_number.l1_nat]
def i_number (n_ : Int) (many : Int) : Option ByteArray := i_number.F (fun y0 => some y0) n_ many
theorem i_number_nat {S : Type} (g : ByteArray → Option S) (n_ : Int) (many : Int) : i_number.F (fun y0 => g y0) n_ many = (i_number n_ many).bind g := i_number.F_nat g (fun y0 => some y0) n_ many
def i_number.out : ByteArray → CRes := fun a => ⟨encL SV.enc [.one (.str)] (a, ()), [encL SC.enc [] (), encL SC.enc [] ()]⟩
def i_number.ps : List PS := [.val [none], .val [none]]
def i_number.sA : List SA := [.v (.one (.int .i64)), .v (.one (.int .i64))]
def i_number.fi : FI := FIs i_number.sA (ByteArray) (fun t => i_number t.1 t.2.1) i_number.out i_number.ps
def i_number.E : Env := ⟨tt, lkF [], 24, 0, [], []⟩
def i_number.sh1 : SK := ⟨[.v (.one (.int .i64)), .v (.one (.slo 0)), .v (.one (.int .i64))], [.arr (.int .u8) [] true]⟩
def i_number.sh1e0 : SK := ⟨[.v (.one (.slo 0))], [.arr (.int .u8) [] true]⟩
def i_number.ko1 : Ex → List CastAt × List Nat
  | .nrm => ([], [])
  | .ret => ([], [])
  | .ext i => cond (Nat.beq i 0) ([], [5]) ([], [])
def i_number.G1 (n : Nat) (R : Type) (t : i_number.sh1.T) (K : Ex → Kp → Option R) : Option R := i_number.l1 (fun y0 => K (.ext 0) (SK.enc i_number.sh1e0 (((), ()), (y0, ())))) n t.1.1 t.1.2.2.1 t.2.1
def i_number.S1 : Sum := ⟨([], [0, 5, 6]), sumF i_number.sh1 (i_number.G1 fuel), i_number.ko1⟩
theorem i_number.ok1 (hE : EOk Tryz.prog (i_number.E)) : SumOk Tryz.prog i_number.E (cB (cR (cL (cR (cR (bodyOf Tryz.f137)))))) (i_number.S1) := by
  have hh : HintOk Tryz.prog i_number.E (cB (cB (cR (cL (cR (cR (bodyOf Tryz.f137))))))) (.a) := HintOk.n1 (Q := True) (by kernel_rfl) trivial
  have h := loopS (kin := ([], [0, 5, 6])) (kout := i_number.ko1) (sh := i_number.sh1) (F := i_number.G1) (ops_ok (hE.gv _)) (by kernel_rfl) hh (fun _ _ _ => rfl) (fun n R t K => by kernel_rfl) fuel
  exact HintOk.n1 (c := (cB (cR (cL (cR (cR (bodyOf Tryz.f137))))))) (h := .s (i_number.S1)) (P := Tryz.prog) (E := i_number.E) (by kernel_rfl) h
theorem i_number.hok (hE : EOk Tryz.prog (i_number.E)) : HintOk Tryz.prog i_number.E (bodyOf Tryz.f137) (.n (.a) (.n (.a) (.n (.n (.a) (.b (.s (i_number.S1)))) (.a)))) := HintOk.n1 (Q := (True) ∧ ((True) ∧ (((True) ∧ (SumOk Tryz.prog i_number.E (cB (cR (cL (cR (cR (bodyOf Tryz.f137)))))) (i_number.S1))) ∧ (True)))) (by kernel_rfl) ⟨trivial, ⟨trivial, ⟨⟨trivial, (i_number.ok1 hE)⟩, trivial⟩⟩⟩
theorem i_number.hE : EOk Tryz.prog (i_number.E) := EOk.of ttOk (trivial)
theorem i_number.fok : FOk Tryz.prog 137 i_number.fi :=
  fokS (E := i_number.E) (wy := ⟨[[none]], [[], []], []⟩) (h := (fun gs => .n (.a) (.n (.a) (.n (.n (.a) (.b (.s (i_number.S1)))) (.a))))) (G := fun t g => i_number.F (fun y0 => g y0) t.1 t.2.1) (by kernel_rfl) i_number.hE Tryz.func137 (by kernel_rfl) rfl (Nat.le_refl _) (fun t => HintOk.n1 (by kernel_rfl) (i_number.hok i_number.hE)) (fun t g => i_number_nat g t.1 t.2.1) (fun t => by kernel_rfl)
/-! loop.example_g00220_impl.check32 -/
def i_check32.l1 {R : Type} (kke2 : ByteArray → Int → Int → Int → Option R) : Nat → ByteArray → Int → Int → Int → Int → Option R
  | 0, _, _, _, _, _ => none
  | n + 1, s, sum, i, i1, i2 =>
    cond (decide (i2 < (8 : Int))) (
      grd (gSh (1 : Int)) <|
      cond ((iAnd .u32 sum (1 : Int)) == (1 : Int)) (
        i_check32.l1 kke2 n s (iXor .u32 (iShr .u32 sum (1 : Int)) (3988292384 : Int)) i i1 (IntKind.wrap .i64 (i2 + (1 : Int)))) (i_check32.l1 kke2 n s (iShr .u32 sum (1 : Int)) i i1 (IntKind.wrap .i64 (i2 + (1 : Int))))) (kke2 s sum i i1)
theorem i_check32.l1_nat {R S : Type} (g : R → Option S) (kke2 : ByteArray → Int → Int → Int → Option R) : ∀ (n : Nat) (s : ByteArray) (sum : Int) (i : Int) (i1 : Int) (i2 : Int), i_check32.l1 (fun y0 y1 y2 y3 => (kke2 y0 y1 y2 y3).bind g) n s sum i i1 i2 = (i_check32.l1 kke2 n s sum i i1 i2).bind g := by
  intro n
  induction n with
  | zero => intros; rfl
  | succ n ih => intros; simp only [i_check32.l1, grd_bind, cnd_bind, bnd_bind, non_bind, ih]
def i_check32.l2 {R : Type} (kke0 : Int → Option R) : Nat → ByteArray → Int → Int → Int → Option R
  | 0, _, _, _, _ => none
  | n + 1, s, sum, i, i1 =>
    cond (decide (i1 < i)) (
      grd (gIx i1 (ByteArray.size s)) <|
      i_check32.l1 (fun s1 sum1 i2 i3 => i_check32.l2 kke0 n s1 sum1 i2 (IntKind.wrap .i64 (i3 + (1 : Int)))) fuel s (iXor .u32 sum (IntKind.wrap .u32 (byteAt s i1))) i i1 (0 : Int)) (kke0 sum)
theorem i_check32.l2_nat {R S : Type} (g : R → Option S) (kke0 : Int → Option R) : ∀ (n : Nat) (s : ByteArray) (sum : Int) (i : Int) (i1 : Int), i_check32.l2 (fun y0 => (kke0 y0).bind g) n s sum i i1 = (i_check32.l2 kke0 n s sum i i1).bind g := by
  intro n
  induction n with
  | zero => intros; rfl
  | succ n ih => intros; simp only [i_check32.l2, grd_bind, cnd_bind, bnd_bind, non_bind, ← i_check32.l1_nat, ih]
def i_check32.F {R : Type} (kk : Int → Option R) (s : ByteArray) : Option R :=
  i_check32.l2 (fun sum => kk (IntKind.wrap .i64 (iXor .u32 (IntKind.max .u32) sum))) fuel s (4294967295 : Int) (ByteArray.size s : Int) (0 : Int)
theorem i_check32.F_nat {R S : Type} (g : R → Option S) (kk : Int → Option R) (s : ByteArray) : i_check32.F (fun y0 => (kk y0).bind g) s = (i_check32.F kk s).bind g := by
  simp only [i_check32.F, grd_bind, cnd_bind, bnd_bind, non_bind, ← i_check32.l2_nat]
def i_check32 (s : ByteArray) : Option Int := i_check32.F (fun y0 => some y0) s
theorem i_check32_nat {S : Type} (g : Int → Option S) (s : ByteArray) : i_check32.F (fun y0 => g y0) s = (i_check32 s).bind g := i_check32.F_nat g (fun y0 => some y0) s
def i_check32.out : Int → CRes := fun a => ⟨encL SV.enc [.one (.int .i64)] (a, ()), [encL SC.enc [] ()]⟩
def i_check32.ps : List PS := [.val [none]]
def i_check32.sA : List SA := [.v (.one (.str))]
def i_check32.fi : FI := FIs i_check32.sA (Int) (fun t => i_check32 t.1) i_check32.out i_check32.ps
def i_check32.E : Env := ⟨tt, lkF [], 32, 0, [], []⟩
def i_check32.sh1 : SK := ⟨[.v (.one (.str)), .v (.one (.int .u32)), .v (.one (.int .i64)), .v (.one (.int .i64)), .v (.one (.int .i64))], []⟩
def i_check32.sh1e2 : SK := ⟨[.v (.one (.str)), .v (.one (.int .u32)), .v (.one (.int .i64)), .v (.one (.int .i64))], []⟩
def i_check32.ko1 : Ex → List CastAt × List Nat
  | .nrm => ([], [])
  | .ret => ([], [])
  | .ext i => cond (Nat.beq i 2) ([], [0, 3, 7, 8]) ([], [])
def i_check32.G1 (n : Nat) (R : Type) (t : i_check32.sh1.T) (K : Ex → Kp → Option R) : Option R := i_check32.l1 (fun y0 y1 y2 y3 => K (.ext 2) (SK.enc i_check32.sh1e2 ((y0, y1, y2, y3, ()), ()))) n t.1.1 t.1.2.1 t.1.2.2.1 t.1.2.2.2.1 t.1.2.2.2.2.1
def i_check32.S1 : Sum := ⟨([], [0, 3, 7, 8, 17]), sumF i_check32.sh1 (i_check32.G1 fuel), i_check32.ko1⟩
theorem i_check32.ok1 (hE : EOk Tryz.prog (i_check32.E)) : SumOk Tryz.prog i_check32.E (cB (cR (cR (cR (cB (cL (cR (cR (cB (cB (cR (cL (cR (cR (bodyOf Tryz.f176))))))))))))))) (i_check32.S1) := by
  have hh : HintOk Tryz.prog i_check32.E (cB (cB (cR (cR (cR (cB (cL (cR (cR (cB (cB (cR (cL (cR (cR (bodyOf Tryz.f176)))))))))))))))) (.a) := HintOk.n1 (Q := True) (by kernel_rfl) trivial
  have h := loopS (kin := ([], [0, 3, 7, 8, 17])) (kout := i_check32.ko1) (sh := i_check32.sh1) (F := i_check32.G1) (ops_ok (hE.gv _)) (by kernel_rfl) hh (fun _ _ _ => rfl) (fun n R t K => by kernel_rfl) fuel
  exact HintOk.n1 (c := (cB (cR (cR (cR (cB (cL (cR (cR (cB (cB (cR (cL (cR (cR (bodyOf Tryz.f176)))))))))))))))) (h := .s (i_check32.S1)) (P := Tryz.prog) (E := i_check32.E) (by kernel_rfl) h
def i_check32.sh2 : SK := ⟨[.v (.one (.str)), .v (.one (.int .u32)), .v (.one (.int .i64)), .v (.one (.int .i64))], []⟩
def i_check32.sh2e0 : SK := ⟨[.v (.one (.int .u32))], []⟩
def i_check32.ko2 : Ex → List CastAt × List Nat
  | .nrm => ([], [])
  | .ret => ([], [])
  | .ext i => cond (Nat.beq i 0) ([], [3]) ([], [])
def i_check32.G2 (n : Nat) (R : Type) (t : i_check32.sh2.T) (K : Ex → Kp → Option R) : Option R := i_check32.l2 (fun y0 => K (.ext 0) (SK.enc i_check32.sh2e0 ((y0, ()), ()))) n t.1.1 t.1.2.1 t.1.2.2.1 t.1.2.2.2.1
def i_check32.S2 : Sum := ⟨([], [0, 3, 7, 8]), sumF i_check32.sh2 (i_check32.G2 fuel), i_check32.ko2⟩
theorem i_check32.ok2 (hE : EOk Tryz.prog (i_check32.E)) : SumOk Tryz.prog i_check32.E (cB (cR (cL (cR (cR (bodyOf Tryz.f176)))))) (i_check32.S2) := by
  have hh : HintOk Tryz.prog i_check32.E (cB (cB (cR (cL (cR (cR (bodyOf Tryz.f176))))))) (.n (.a) (.n (.a) (.n (.b (.n (.a) (.n (.a) (.n (.a) (.b (.s (i_check32.S1))))))) (.a)))) := HintOk.n1 (Q := (True) ∧ ((True) ∧ (((True) ∧ ((True) ∧ ((True) ∧ (SumOk Tryz.prog i_check32.E (cB (cR (cR (cR (cB (cL (cR (cR (cB (cB (cR (cL (cR (cR (bodyOf Tryz.f176))))))))))))))) (i_check32.S1))))) ∧ (True)))) (by kernel_rfl) ⟨trivial, ⟨trivial, ⟨⟨trivial, ⟨trivial, ⟨trivial, (i_check32.ok1 hE)⟩⟩⟩, trivial⟩⟩⟩
  have h := loopS (kin := ([], [0, 3, 7, 8])) (kout := i_check32.ko2) (sh := i_check32.sh2) (F := i_check32.G2) (ops_ok (hE.gv _)) (by kernel_rfl) hh (fun _ _ _ => rfl) (fun n R t K => by kernel_rfl) fuel
  exact HintOk.n1 (c := (cB (cR (cL (cR (cR (bodyOf Tryz.f176))))))) (h := .s (i_check32.S2)) (P := Tryz.prog) (E := i_check32.E) (by kernel_rfl) h
theorem i_check32.hok (hE : EOk Tryz.prog (i_check32.E)) : HintOk Tryz.prog i_check32.E (bodyOf Tryz.f176) (.n (.a) (.n (.a) (.n (.n (.a) (.b (.s (i_check32.S2)))) (.a)))) := HintOk.n1 (Q := (True) ∧ ((True) ∧ (((True) ∧ (SumOk Tryz.prog i_check32.E (cB (cR (cL (cR (cR (bodyOf Tryz.f176)))))) (i_check32.S2))) ∧ (True)))) (by kernel_rfl) ⟨trivial, ⟨trivial, ⟨⟨trivial, (i_check32.ok2 hE)⟩, trivial⟩⟩⟩
theorem i_check32.hE : EOk Tryz.prog (i_check32.E) := EOk.of ttOk (trivial)
theorem i_check32.fok : FOk Tryz.prog 176 i_check32.fi :=
  fokS (E := i_check32.E) (wy := ⟨[[none]], [[]], []⟩) (h := (fun gs => .n (.a) (.n (.a) (.n (.n (.a) (.b (.s (i_check32.S2)))) (.a))))) (G := fun t g => i_check32.F (fun y0 => g y0) t.1) (by kernel_rfl) i_check32.hE Tryz.func176 (by kernel_rfl) rfl (Nat.le_refl _) (fun t => HintOk.n1 (by kernel_rfl) (i_check32.hok i_check32.hE)) (fun t g => i_check32_nat g t.1) (fun t => by kernel_rfl)
/-! loop.example_g00220_impl.frame -/
def i_frame.F {R : Type} (kk : ByteArray → Option R) (data : ByteArray) : Option R :=
  (i_number (ByteArray.size data : Int) (2 : Int)).bind fun r =>
  grd (gCat r data) <|
  (i_check32 (r ++ data)).bind fun r1 =>
  (i_number r1 (4 : Int)).bind fun r2 =>
  grd (gCat r r2) <|
  grd (gCat (r ++ r2) data) <|
  kk ((r ++ r2) ++ data)
theorem i_frame.F_nat {R S : Type} (g : R → Option S) (kk : ByteArray → Option R) (data : ByteArray) : i_frame.F (fun y0 => (kk y0).bind g) data = (i_frame.F kk data).bind g := by
  simp only [i_frame.F, grd_bind, cnd_bind, bnd_bind, non_bind]
def i_frame (data : ByteArray) : Option ByteArray := i_frame.F (fun y0 => some y0) data
theorem i_frame_nat {S : Type} (g : ByteArray → Option S) (data : ByteArray) : i_frame.F (fun y0 => g y0) data = (i_frame data).bind g := i_frame.F_nat g (fun y0 => some y0) data
def i_frame.out : ByteArray → CRes := fun a => ⟨encL SV.enc [.one (.str)] (a, ()), [encL SC.enc [] ()]⟩
def i_frame.ps : List PS := [.val [none]]
def i_frame.sA : List SA := [.v (.one (.str))]
def i_frame.fi : FI := FIs i_frame.sA (ByteArray) (fun t => i_frame t.1) i_frame.out i_frame.ps
def i_frame.E : Env := ⟨tt, lkF [(137, i_number.fi), (176, i_check32.fi)], 16, 0, [], []⟩
theorem i_frame.hok (hE : EOk Tryz.prog (i_frame.E)) : HintOk Tryz.prog i_frame.E (bodyOf Tryz.f155) (.a) := HintOk.n1 (Q := True) (by kernel_rfl) trivial
theorem i_frame.hE : EOk Tryz.prog (i_frame.E) := EOk.of ttOk (⟨i_number.fok, ⟨i_check32.fok, trivial⟩⟩)
theorem i_frame.fok : FOk Tryz.prog 155 i_frame.fi :=
  fokS (E := i_frame.E) (wy := ⟨[[none]], [[]], []⟩) (h := (fun gs => .a)) (G := fun t g => i_frame.F (fun y0 => g y0) t.1) (by kernel_rfl) i_frame.hE Tryz.func155 (by kernel_rfl) rfl (Nat.le_refl _) (fun t => HintOk.n1 (by kernel_rfl) (i_frame.hok i_frame.hE)) (fun t g => i_frame_nat g t.1) (fun t => by kernel_rfl)
/-! loop.example_g00220_impl.frameAt -/
def i_frameAt.F {R : Type} (kk : ByteArray → Int → Option R) (s : ByteArray) : Option R :=
  cond (decide ((ByteArray.size s : Int) < (6 : Int))) (kk ByteArray.empty (16 : Int)) (
    grd (gSl (0 : Int) (2 : Int) (ByteArray.size s)) <|
    (i_numberOf (cut s (0 : Int) (2 : Int))).bind fun r =>
    (i_within r (1 : Int) (200 : Int)).bind fun r1 =>
    cond (!r1) (kk ByteArray.empty (8 : Int)) (
      cond (decide ((ByteArray.size s : Int) < (IntKind.wrap .i64 ((6 : Int) + r)))) (kk ByteArray.empty (16 : Int)) (
        grd (gSl (6 : Int) (IntKind.wrap .i64 ((6 : Int) + r)) (ByteArray.size s)) <|
        (i_frame (cut s (6 : Int) (IntKind.wrap .i64 ((6 : Int) + r)))).bind fun r2 =>
        grd (gSl (0 : Int) (IntKind.wrap .i64 ((6 : Int) + r)) (ByteArray.size s)) <|
        cond (!(sEq r2 (cut s (0 : Int) (IntKind.wrap .i64 ((6 : Int) + r))))) (kk ByteArray.empty (8 : Int)) (
          grd (gSl (6 : Int) (IntKind.wrap .i64 ((6 : Int) + r)) (ByteArray.size s)) <|
          kk (cut s (6 : Int) (IntKind.wrap .i64 ((6 : Int) + r))) (0 : Int)))))
theorem i_frameAt.F_nat {R S : Type} (g : R → Option S) (kk : ByteArray → Int → Option R) (s : ByteArray) : i_frameAt.F (fun y0 y1 => (kk y0 y1).bind g) s = (i_frameAt.F kk s).bind g := by
  simp only [i_frameAt.F, grd_bind, cnd_bind, bnd_bind, non_bind]
def i_frameAt (s : ByteArray) : Option (ByteArray × Int) := i_frameAt.F (fun y0 y1 => some (y0, y1)) s
theorem i_frameAt_nat {S : Type} (g : (ByteArray × Int) → Option S) (s : ByteArray) : i_frameAt.F (fun y0 y1 => g (y0, y1)) s = (i_frameAt s).bind g := i_frameAt.F_nat g (fun y0 y1 => some (y0, y1)) s
def i_frameAt.out : (ByteArray × Int) → CRes := fun a => ⟨encL SV.enc [.one (.str), .one (.int .i64)] (a.1, a.2, ()), [encL SC.enc [] ()]⟩
def i_frameAt.ps : List PS := [.val [none]]
def i_frameAt.sA : List SA := [.v (.one (.str))]
def i_frameAt.fi : FI := FIs i_frameAt.sA (ByteArray × Int) (fun t => i_frameAt t.1) i_frameAt.out i_frameAt.ps
def i_frameAt.E : Env := ⟨tt, lkF [(67, i_within.fi), (103, i_numberOf.fi), (155, i_frame.fi)], 36, 0, [], []⟩
theorem i_frameAt.hok (hE : EOk Tryz.prog (i_frameAt.E)) : HintOk Tryz.prog i_frameAt.E (bodyOf Tryz.f148) (.a) := HintOk.n1 (Q := True) (by kernel_rfl) trivial
theorem i_frameAt.hE : EOk Tryz.prog (i_frameAt.E) := EOk.of ttOk (⟨i_within.fok, ⟨i_numberOf.fok, ⟨i_frame.fok, trivial⟩⟩⟩)
theorem i_frameAt.fok : FOk Tryz.prog 148 i_frameAt.fi :=
  fokS (E := i_frameAt.E) (wy := ⟨[[none], [none]], [[]], []⟩) (h := (fun gs => .a)) (G := fun t g => i_frameAt.F (fun y0 y1 => g (y0, y1)) t.1) (by kernel_rfl) i_frameAt.hE Tryz.func148 (by kernel_rfl) rfl (Nat.le_refl _) (fun t => HintOk.n1 (by kernel_rfl) (i_frameAt.hok i_frameAt.hE)) (fun t g => i_frameAt_nat g t.1) (fun t => by kernel_rfl)
/-! loop.example_g00220_impl.readFrames -/
def i_readFrames.l1 {R : Type} (kke0 : Int → List ByteArray → Option R) (kkr : Int → Int → List ByteArray → Option R) : Nat → ByteArray → Int → List ByteArray → Option R
  | 0, _, _, _ => none
  | n + 1, s, used, out =>
    cond (decide (used < (ByteArray.size s : Int))) (
      grd (gSl used (ByteArray.size s : Int) (ByteArray.size s)) <|
      (i_frameAt (cut s used (ByteArray.size s : Int))).bind fun r =>
      cond (r.2 != (0 : Int)) (kkr used r.2 out) (
        grd (gRm (((List.length out) + (List.length [r.1])) * 16)) <|
        i_readFrames.l1 kke0 kkr n s (IntKind.wrap .i64 ((IntKind.wrap .i64 (used + (6 : Int))) + (ByteArray.size r.1 : Int))) (out ++ [r.1]))) (kke0 used out)
theorem i_readFrames.l1_nat {R S : Type} (g : R → Option S) (kke0 : Int → List ByteArray → Option R) (kkr : Int → Int → List ByteArray → Option R) : ∀ (n : Nat) (s : ByteArray) (used : Int) (out : List ByteArray), i_readFrames.l1 (fun y0 y1 => (kke0 y0 y1).bind g) (fun y0 y1 y2 => (kkr y0 y1 y2).bind g) n s used out = (i_readFrames.l1 kke0 kkr n s used out).bind g := by
  intro n
  induction n with
  | zero => intros; rfl
  | succ n ih => intros; simp only [i_readFrames.l1, grd_bind, cnd_bind, bnd_bind, non_bind, ih]
def i_readFrames.F {R : Type} (kk : List ByteArray → Int → Int → Option R) (s : ByteArray) : Option R :=
  i_readFrames.l1 (fun used out => kk out used (0 : Int)) (fun i i1 l => kk l i i1) fuel s (0 : Int) ([] : List ByteArray)
theorem i_readFrames.F_nat {R S : Type} (g : R → Option S) (kk : List ByteArray → Int → Int → Option R) (s : ByteArray) : i_readFrames.F (fun y0 y1 y2 => (kk y0 y1 y2).bind g) s = (i_readFrames.F kk s).bind g := by
  simp only [i_readFrames.F, grd_bind, cnd_bind, bnd_bind, non_bind, ← i_readFrames.l1_nat]
def i_readFrames (s : ByteArray) : Option (List ByteArray × Int × Int) := i_readFrames.F (fun y0 y1 y2 => some (y0, y1, y2)) s
theorem i_readFrames_nat {S : Type} (g : (List ByteArray × Int × Int) → Option S) (s : ByteArray) : i_readFrames.F (fun y0 y1 y2 => g (y0, y1, y2)) s = (i_readFrames s).bind g := i_readFrames.F_nat g (fun y0 y1 y2 => some (y0, y1, y2)) s
def i_readFrames.out : (List ByteArray × Int × Int) → CRes := fun a => ⟨encL SV.enc [.one (.own [] .str true), .one (.int .i64), .one (.int .i64)] (a.1, a.2.1, a.2.2, ()), [encL SC.enc [] ()]⟩
def i_readFrames.ps : List PS := [.val [none]]
def i_readFrames.sA : List SA := [.v (.one (.str))]
def i_readFrames.fi : FI := FIs i_readFrames.sA (List ByteArray × Int × Int) (fun t => i_readFrames t.1) i_readFrames.out i_readFrames.ps
def i_readFrames.E : Env := ⟨tt, lkF [(148, i_frameAt.fi)], 37, 0, [], []⟩
def i_readFrames.sh1 : SK := ⟨[.v (.one (.str)), .v (.one (.slo 0)), .v (.one (.int .i64))], [.arr .str [] true]⟩
def i_readFrames.sh1e0 : SK := ⟨[.v (.one (.slo 0)), .v (.one (.int .i64))], [.arr .str [] true]⟩
def i_readFrames.sh1r : SK := ⟨[.v (.one (.slo 0)), .v (.one (.int .i64)), .v (.one (.int .i64))], [.arr .str [] true]⟩
def i_readFrames.ko1 : Ex → List CastAt × List Nat
  | .nrm => ([], [])
  | .ret => ([], [2, 3, 4])
  | .ext i => cond (Nat.beq i 0) ([], [5, 6]) ([], [])
def i_readFrames.G1 (n : Nat) (R : Type) (t : i_readFrames.sh1.T) (K : Ex → Kp → Option R) : Option R := i_readFrames.l1 (fun y0 y1 => K (.ext 0) (SK.enc i_readFrames.sh1e0 (((), y0, ()), (y1, ())))) (fun y0 y1 y2 => K .ret (SK.enc i_readFrames.sh1r (((), y0, y1, ()), (y2, ())))) n t.1.1 t.1.2.2.1 t.2.1
def i_readFrames.S1 : Sum := ⟨([], [0, 5, 6]), sumF i_readFrames.sh1 (i_readFrames.G1 fuel), i_readFrames.ko1⟩
theorem i_readFrames.ok1 (hE : EOk Tryz.prog (i_readFrames.E)) : SumOk Tryz.prog i_readFrames.E (cB (cL (cR (cR (bodyOf Tryz.f102))))) (i_readFrames.S1) := by
  have hh : HintOk Tryz.prog i_readFrames.E (cB (cB (cL (cR (cR (bodyOf Tryz.f102)))))) (.a) := HintOk.n1 (Q := True) (by kernel_rfl) trivial
  have h := loopS (kin := ([], [0, 5, 6])) (kout := i_readFrames.ko1) (sh := i_readFrames.sh1) (F := i_readFrames.G1) (ops_ok (hE.gv _)) (by kernel_rfl) hh (fun _ _ _ => rfl) (fun n R t K => by kernel_rfl) fuel
  exact HintOk.n1 (c := (cB (cL (cR (cR (bodyOf Tryz.f102)))))) (h := .s (i_readFrames.S1)) (P := Tryz.prog) (E := i_readFrames.E) (by kernel_rfl) h
theorem i_readFrames.hok (hE : EOk Tryz.prog (i_readFrames.E)) : HintOk Tryz.prog i_readFrames.E (bodyOf Tryz.f102) (.n (.a) (.n (.a) (.n (.b (.s (i_readFrames.S1))) (.a)))) := HintOk.n1 (Q := (True) ∧ ((True) ∧ ((SumOk Tryz.prog i_readFrames.E (cB (cL (cR (cR (bodyOf Tryz.f102))))) (i_readFrames.S1)) ∧ (True)))) (by kernel_rfl) ⟨trivial, ⟨trivial, ⟨(i_readFrames.ok1 hE), trivial⟩⟩⟩
theorem i_readFrames.hE : EOk Tryz.prog (i_readFrames.E) := EOk.of ttOk (⟨i_frameAt.fok, trivial⟩)
theorem i_readFrames.fok : FOk Tryz.prog 102 i_readFrames.fi :=
  fokS (E := i_readFrames.E) (wy := ⟨[[some (.str, true)], [none], [none]], [[]], []⟩) (h := (fun gs => .n (.a) (.n (.a) (.n (.b (.s (i_readFrames.S1))) (.a))))) (G := fun t g => i_readFrames.F (fun y0 y1 y2 => g (y0, y1, y2)) t.1) (by kernel_rfl) i_readFrames.hE Tryz.func102 (by kernel_rfl) rfl (Nat.le_refl _) (fun t => HintOk.n1 (by kernel_rfl) (i_readFrames.hok i_readFrames.hE)) (fun t g => i_readFrames_nat g t.1) (fun t => by kernel_rfl)
/-! _loop.example_g00220_impl.Wal_.next -/
def i_Wal_next.F {R : Type} (kk : Int → Option R) (w_First : Int) (w_Records : List ByteArray) (w_Names : List ByteArray) (w_Torn : Int) : Option R :=
  kk (IntKind.wrap .i64 (w_First + (List.length w_Records : Int)))
theorem i_Wal_next.F_nat {R S : Type} (g : R → Option S) (kk : Int → Option R) (w_First : Int) (w_Records : List ByteArray) (w_Names : List ByteArray) (w_Torn : Int) : i_Wal_next.F (fun y0 => (kk y0).bind g) w_First w_Records w_Names w_Torn = (i_Wal_next.F kk w_First w_Records w_Names w_Torn).bind g := by
  simp only [i_Wal_next.F, grd_bind, cnd_bind, bnd_bind, non_bind]
def i_Wal_next (w_First : Int) (w_Records : List ByteArray) (w_Names : List ByteArray) (w_Torn : Int) : Option Int := i_Wal_next.F (fun y0 => some y0) w_First w_Records w_Names w_Torn
theorem i_Wal_next_nat {S : Type} (g : Int → Option S) (w_First : Int) (w_Records : List ByteArray) (w_Names : List ByteArray) (w_Torn : Int) : i_Wal_next.F (fun y0 => g y0) w_First w_Records w_Names w_Torn = (i_Wal_next w_First w_Records w_Names w_Torn).bind g := i_Wal_next.F_nat g (fun y0 => some y0) w_First w_Records w_Names w_Torn
def i_Wal_next.out : Int → CRes := fun a => ⟨encL SV.enc [.one (.int .i64)] (a, ()), [encL SC.enc [] ()]⟩
def i_Wal_next.ps : List PS := [.val [none, some (.str, false), some (.str, false), none]]
def i_Wal_next.sA : List SA := [.v (.agg [.int .i64, .slv [] .str, .slv [] .str, .int .i64])]
def i_Wal_next.fi : FI := FIs i_Wal_next.sA (Int) (fun t => i_Wal_next t.1.1 t.1.2.1 t.1.2.2.1 t.1.2.2.2.1) i_Wal_next.out i_Wal_next.ps
def i_Wal_next.E : Env := ⟨tt, lkF [], 9, 0, [], []⟩
theorem i_Wal_next.hok (hE : EOk Tryz.prog (i_Wal_next.E)) : HintOk Tryz.prog i_Wal_next.E (bodyOf Tryz.f153) (.a) := HintOk.n1 (Q := True) (by kernel_rfl) trivial
theorem i_Wal_next.hE : EOk Tryz.prog (i_Wal_next.E) := EOk.of ttOk (trivial)
theorem i_Wal_next.fok : FOk Tryz.prog 153 i_Wal_next.fi :=
  fokS (E := i_Wal_next.E) (wy := ⟨[[none]], [[]], []⟩) (h := (fun gs => .a)) (G := fun t g => i_Wal_next.F (fun y0 => g y0) t.1.1 t.1.2.1 t.1.2.2.1 t.1.2.2.2.1) (by kernel_rfl) i_Wal_next.hE Tryz.func153 (by kernel_rfl) rfl (Nat.le_refl _) (fun t => HintOk.n1 (by kernel_rfl) (i_Wal_next.hok i_Wal_next.hE)) (fun t g => i_Wal_next_nat g t.1.1 t.1.2.1 t.1.2.2.1 t.1.2.2.2.1) (fun t => by kernel_rfl)
/-! __loop.example_g00220_impl.walReader_.segment -/
def i_walReader_segment.j1 {R : Type} (kkn : Bool → Int → Int → Bool → Int → Int → Int → ByteArray → ByteArray → Int → List ByteArray → List ByteArray → List ByteArray → Option R) (isLast : Bool) (used : Int) (code : Int) (number : Int) (r : Int) (r1 : Int) (r2 : Int) (f : ByteArray) (f1 : ByteArray) (f2 : Int) (frames : List ByteArray) (l : List ByteArray) (l1 : List ByteArray) : Option R :=
  cond (code != (0 : Int)) (
    cond (isLast) (kkn isLast used number (!(code == (16 : Int))) r r1 r2 f f1 f2 frames l l1) (kkn isLast used number true r r1 r2 f f1 f2 frames l l1)) (kkn isLast used number false r r1 r2 f f1 f2 frames l l1)
theorem i_walReader_segment.j1_nat {R S : Type} (g : R → Option S) (kkn : Bool → Int → Int → Bool → Int → Int → Int → ByteArray → ByteArray → Int → List ByteArray → List ByteArray → List ByteArray → Option R) (isLast : Bool) (used : Int) (code : Int) (number : Int) (r : Int) (r1 : Int) (r2 : Int) (f : ByteArray) (f1 : ByteArray) (f2 : Int) (frames : List ByteArray) (l : List ByteArray) (l1 : List ByteArray) : i_walReader_segment.j1 (fun y0 y1 y2 y3 y4 y5 y6 y7 y8 y9 y10 y11 y12 => (kkn y0 y1 y2 y3 y4 y5 y6 y7 y8 y9 y10 y11 y12).bind g) isLast used code number r r1 r2 f f1 f2 frames l l1 = (i_walReader_segment.j1 kkn isLast used code number r r1 r2 f f1 f2 frames l l1).bind g := by
  simp only [i_walReader_segment.j1, grd_bind, cnd_bind, bnd_bind, non_bind]
def i_walReader_segment.j2 {R : Type} (kkn : Int → Int → Int → Int → Int → ByteArray → ByteArray → Int → List ByteArray → List ByteArray → List ByteArray → Option R) (kkr : Int → Int → Int → Int → List ByteArray → List ByteArray → Option R) (isLast : Bool) (used : Int) (code : Int) (number : Int) (r : Int) (r1 : Int) (r2 : Int) (f : ByteArray) (f1 : ByteArray) (f2 : Int) (frames : List ByteArray) (l : List ByteArray) (l1 : List ByteArray) : Option R :=
  i_walReader_segment.j1 (fun isLast1 used1 number1 b r3 r4 r5 f3 f4 f5 frames1 l2 l3 =>
    cond (b) (kkr (8 : Int) r3 r4 r5 l2 l3) (
      cond (decide (r5 > (0 : Int))) (
        cond (number1 != (IntKind.wrap .i64 (r5 + (1 : Int)))) (kkr (3 : Int) r3 r4 r5 l2 l3) (
          cond ((List.length frames1 : Int) == (0 : Int)) (
            cond (!isLast1) (kkr (3 : Int) r3 r4 r5 l2 l3) (kkn used1 number1 r3 r4 r5 f3 f4 f5 frames1 l2 l3)) (kkn used1 number1 r3 r4 r5 f3 f4 f5 frames1 l2 l3))) (
        cond ((List.length frames1 : Int) == (0 : Int)) (
          cond (!isLast1) (kkr (3 : Int) r3 r4 r5 l2 l3) (kkn used1 number1 r3 r4 r5 f3 f4 f5 frames1 l2 l3)) (kkn used1 number1 r3 r4 r5 f3 f4 f5 frames1 l2 l3)))) isLast used code number r r1 r2 f f1 f2 frames l l1
theorem i_walReader_segment.j2_nat {R S : Type} (g : R → Option S) (kkn : Int → Int → Int → Int → Int → ByteArray → ByteArray → Int → List ByteArray → List ByteArray → List ByteArray → Option R) (kkr : Int → Int → Int → Int → List ByteArray → List ByteArray → Option R) (isLast : Bool) (used : Int) (code : Int) (number : Int) (r : Int) (r1 : Int) (r2 : Int) (f : ByteArray) (f1 : ByteArray) (f2 : Int) (frames : List ByteArray) (l : List ByteArray) (l1 : List ByteArray) : i_walReader_segment.j2 (fun y0 y1 y2 y3 y4 y5 y6 y7 y8 y9 y10 => (kkn y0 y1 y2 y3 y4 y5 y6 y7 y8 y9 y10).bind g) (fun y0 y1 y2 y3 y4 y5 => (kkr y0 y1 y2 y3 y4 y5).bind g) isLast used code number r r1 r2 f f1 f2 frames l l1 = (i_walReader_segment.j2 kkn kkr isLast used code number r r1 r2 f f1 f2 frames l l1).bind g := by
  simp only [i_walReader_segment.j2, grd_bind, cnd_bind, bnd_bind, non_bind, ← i_walReader_segment.j1_nat]
def i_walReader_segment.j3 {R : Type} (kkn : Int → Int → Int → Int → List ByteArray → List ByteArray → List ByteArray → Option R) (kkr : Int → Int → Int → Int → List ByteArray → List ByteArray → Option R) (first : Int) (r : Int) (r1 : Int) (r2 : Int) (frames : List ByteArray) (l : List ByteArray) (l1 : List ByteArray) : Option R :=
  grd (gIx (0 : Int) (List.length frames)) <|
  cond ((ByteArray.size (rdE (.str : Kd) frames (Int.toNat (0 : Int))) : Int) != (4 : Int)) (kkr (3 : Int) r r1 r2 l l1) (
    cond (decide ((List.length l1 : Int) > (1 : Int))) (
      (i_Wal_next r l l1 r1).bind fun r3 =>
      cond (first != r3) (kkr (3 : Int) r r1 r2 l l1) (kkn first r r1 r2 frames l l1)) (kkn first r r1 r2 frames l l1))
theorem i_walReader_segment.j3_nat {R S : Type} (g : R → Option S) (kkn : Int → Int → Int → Int → List ByteArray → List ByteArray → List ByteArray → Option R) (kkr : Int → Int → Int → Int → List ByteArray → List ByteArray → Option R) (first : Int) (r : Int) (r1 : Int) (r2 : Int) (frames : List ByteArray) (l : List ByteArray) (l1 : List ByteArray) : i_walReader_segment.j3 (fun y0 y1 y2 y3 y4 y5 y6 => (kkn y0 y1 y2 y3 y4 y5 y6).bind g) (fun y0 y1 y2 y3 y4 y5 => (kkr y0 y1 y2 y3 y4 y5).bind g) first r r1 r2 frames l l1 = (i_walReader_segment.j3 kkn kkr first r r1 r2 frames l l1).bind g := by
  simp only [i_walReader_segment.j3, grd_bind, cnd_bind, bnd_bind, non_bind]
def i_walReader_segment.j4 {R : Type} (kkn : Int → Int → Int → List ByteArray → List ByteArray → List ByteArray → Option R) (first : Int) (r : Int) (r1 : Int) (r2 : Int) (frames : List ByteArray) (l : List ByteArray) (l1 : List ByteArray) : Option R :=
  cond ((List.length l1 : Int) == (1 : Int)) (kkn first r1 r2 frames l l1) (kkn r r1 r2 frames l l1)
theorem i_walReader_segment.j4_nat {R S : Type} (g : R → Option S) (kkn : Int → Int → Int → List ByteArray → List ByteArray → List ByteArray → Option R) (first : Int) (r : Int) (r1 : Int) (r2 : Int) (frames : List ByteArray) (l : List ByteArray) (l1 : List ByteArray) : i_walReader_segment.j4 (fun y0 y1 y2 y3 y4 y5 => (kkn y0 y1 y2 y3 y4 y5).bind g) first r r1 r2 frames l l1 = (i_walReader_segment.j4 kkn first r r1 r2 frames l l1).bind g := by
  simp only [i_walReader_segment.j4, grd_bind, cnd_bind, bnd_bind, non_bind]
def i_walReader_segment.F {R : Type} (kk : Int → Int → List ByteArray → List ByteArray → Int → Int → Option R) (r_wal_First : Int) (r_wal_Records : List ByteArray) (r_wal_Names : List ByteArray) (r_wal_Torn : Int) (r_last : Int) (f_Name : ByteArray) (f_Data : ByteArray) (f_Sure : Int) (isLast : Bool) : Option R :=
  (i_readFrames f_Data).bind fun r =>
  (i_segmentOf f_Name).bind fun r1 =>
  i_walReader_segment.j2 (fun used number r2 r3 r4 f f1 f2 frames l l1 =>
    grd (gRm (((List.length l1) + (List.length [f])) * 16)) <|
    cond ((List.length frames : Int) == (0 : Int)) (kk (0 : Int) r2 l (l1 ++ [f]) (IntKind.wrap .i64 ((ByteArray.size f1 : Int) - used)) number) (
      grd (gIx (0 : Int) (List.length frames)) <|
      (i_numberOf (rdE (.str : Kd) frames (Int.toNat (0 : Int)))).bind fun r5 =>
      i_walReader_segment.j3 (fun first r6 r7 r8 frames1 l2 l3 =>
        i_walReader_segment.j4 (fun r9 r10 r11 frames2 l4 l5 =>
          grd (gSl (1 : Int) (List.length frames2 : Int) (List.length frames2)) <|
          grd (gRm (((List.length l4) + (List.length (sub frames2 (1 : Int) (List.length frames2 : Int)))) * 16)) <|
          kk (0 : Int) r9 (l4 ++ (sub frames2 (1 : Int) (List.length frames2 : Int))) l5 r10 r11) first r6 r7 r8 frames1 l2 l3) (fun i r12 r13 r14 l6 l7 => kk i r12 l6 l7 r13 r14) r5 r2 (IntKind.wrap .i64 ((ByteArray.size f1 : Int) - used)) number frames l (l1 ++ [f]))) (fun i1 r15 r16 r17 l8 l9 => kk i1 r15 l8 l9 r16 r17) isLast r.2.1 r.2.2 r1 r_wal_First r_wal_Torn r_last f_Name f_Data f_Sure r.1 r_wal_Records r_wal_Names
theorem i_walReader_segment.F_nat {R S : Type} (g : R → Option S) (kk : Int → Int → List ByteArray → List ByteArray → Int → Int → Option R) (r_wal_First : Int) (r_wal_Records : List ByteArray) (r_wal_Names : List ByteArray) (r_wal_Torn : Int) (r_last : Int) (f_Name : ByteArray) (f_Data : ByteArray) (f_Sure : Int) (isLast : Bool) : i_walReader_segment.F (fun y0 y1 y2 y3 y4 y5 => (kk y0 y1 y2 y3 y4 y5).bind g) r_wal_First r_wal_Records r_wal_Names r_wal_Torn r_last f_Name f_Data f_Sure isLast = (i_walReader_segment.F kk r_wal_First r_wal_Records r_wal_Names r_wal_Torn r_last f_Name f_Data f_Sure isLast).bind g := by
  simp only [i_walReader_segment.F, grd_bind, cnd_bind, bnd_bind, non_bind, ← i_walReader_segment.j2_nat, ← i_walReader_segment.j3_nat, ← i_walReader_segment.j4_nat]
def i_walReader_segment (r_wal_First : Int) (r_wal_Records : List ByteArray) (r_wal_Names : List ByteArray) (r_wal_Torn : Int) (r_last : Int) (f_Name : ByteArray) (f_Data : ByteArray) (f_Sure : Int) (isLast : Bool) : Option (Int × Int × List ByteArray × List ByteArray × Int × Int) := i_walReader_segment.F (fun y0 y1 y2 y3 y4 y5 => some (y0, y1, y2, y3, y4, y5)) r_wal_First r_wal_Records r_wal_Names r_wal_Torn r_last f_Name f_Data f_Sure isLast
theorem i_walReader_segment_nat {S : Type} (g : (Int × Int × List ByteArray × List ByteArray × Int × Int) → Option S) (r_wal_First : Int) (r_wal_Records : List ByteArray) (r_wal_Names : List ByteArray) (r_wal_Torn : Int) (r_last : Int) (f_Name : ByteArray) (f_Data : ByteArray) (f_Sure : Int) (isLast : Bool) : i_walReader_segment.F (fun y0 y1 y2 y3 y4 y5 => g (y0, y1, y2, y3, y4, y5)) r_wal_First r_wal_Records r_wal_Names r_wal_Torn r_last f_Name f_Data f_Sure isLast = (i_walReader_segment r_wal_First r_wal_Records r_wal_Names r_wal_Torn r_last f_Name f_Data f_Sure isLast).bind g := i_walReader_segment.F_nat g (fun y0 y1 y2 y3 y4 y5 => some (y0, y1, y2, y3, y4, y5)) r_wal_First r_wal_Records r_wal_Names r_wal_Torn r_last f_Name f_Data f_Sure isLast
def i_walReader_segment.out : (Int × Int × List ByteArray × List ByteArray × Int × Int) → CRes := fun a => ⟨encL SV.enc [.one (.int .i64)] (a.1, ()), [encL SC.enc [.int .i64, .own [] .str true, .own [] .str true, .int .i64, .int .i64] (a.2.1, a.2.2.1, a.2.2.2.1, a.2.2.2.2.1, a.2.2.2.2.2, ()), encL SC.enc [] (), encL SC.enc [] ()]⟩
def i_walReader_segment.ps : List PS := [.ptr [none, some (.str, true), some (.str, true), none, none], .val [none, none, none], .val [none]]
def i_walReader_segment.sA : List SA := [.ptr [.int .i64, .own [] .str true, .own [] .str true, .int .i64, .int .i64], .v (.agg [.str, .str, .int .i64]), .v (.one (.bool))]
def i_walReader_segment.fi : FI := FIs i_walReader_segment.sA (Int × Int × List ByteArray × List ByteArray × Int × Int) (fun t => i_walReader_segment t.1.1 t.1.2.1 t.1.2.2.1 t.1.2.2.2.1 t.1.2.2.2.2.1 t.2.1.1 t.2.1.2.1 t.2.1.2.2.1 t.2.2.1) i_walReader_segment.out i_walReader_segment.ps
def i_walReader_segment.E : Env := ⟨tt, lkF [(102, i_readFrames.fi), (103, i_numberOf.fi), (115, i_segmentOf.fi), (153, i_Wal_next.fi)], 137, 1, [], []⟩
def i_walReader_segment.sh1 : SK := ⟨[.v (.one (.bptr 0 0)), .v (.one (.bool)), .v (.one (.bptr 1 0)), .v (.one (.slo 2)), .v (.one (.int .i64)), .v (.one (.int .i64)), .v (.one (.int .i64))], [.box [.int .i64, .slo 3, .slo 4, .int .i64, .int .i64], .box [.str, .str, .int .i64], .arr .str [] true, .arr .str [] true, .arr .str [] true]⟩
def i_walReader_segment.sh1n : SK := ⟨[.v (.one (.bptr 0 0)), .v (.one (.bool)), .v (.one (.bptr 1 0)), .v (.one (.slo 2)), .v (.one (.int .i64)), .v (.one (.int .i64)), .v (.one (.bool))], [.box [.int .i64, .slo 3, .slo 4, .int .i64, .int .i64], .box [.str, .str, .int .i64], .arr .str [] true, .arr .str [] true, .arr .str [] true]⟩
def i_walReader_segment.ko1 : Ex → List CastAt × List Nat
  | .nrm => ([], [0, 2, 4, 7, 8, 10, 22])
  | .ret => ([], [])
  | .ext i => ([], [])
def i_walReader_segment.G1 (R : Type) (t : i_walReader_segment.sh1.T) (K : Ex → Kp → Option R) : Option R := i_walReader_segment.j1 (fun y0 y1 y2 y3 y4 y5 y6 y7 y8 y9 y10 y11 y12 => K .nrm (SK.enc i_walReader_segment.sh1n (((), y0, (), (), y1, y2, y3, ()), ((y4, (), (), y5, y6, ()), (y7, y8, y9, ()), y10, y11, y12, ())))) t.1.2.1 t.1.2.2.2.2.1 t.1.2.2.2.2.2.1 t.1.2.2.2.2.2.2.1 t.2.1.1 t.2.1.2.2.2.1 t.2.1.2.2.2.2.1 t.2.2.1.1 t.2.2.1.2.1 t.2.2.1.2.2.1 t.2.2.2.1 t.2.2.2.2.1 t.2.2.2.2.2.1
def i_walReader_segment.S1 : Sum := ⟨([], [0, 2, 4, 7, 8, 9, 10]), sumF i_walReader_segment.sh1 (i_walReader_segment.G1), i_walReader_segment.ko1⟩
theorem i_walReader_segment.ok1 (hE : EOk Tryz.prog (i_walReader_segment.E)) : SumOk Tryz.prog i_walReader_segment.E (cL (cB (cL (cR (cR (cR (bodyOf Tryz.f116))))))) (i_walReader_segment.S1) := by
  have hh : HintOk Tryz.prog i_walReader_segment.E (cL (cB (cL (cR (cR (cR (bodyOf Tryz.f116))))))) (.a) := HintOk.n1 (Q := True) (by kernel_rfl) trivial
  exact sumS (kin := ([], [0, 2, 4, 7, 8, 9, 10])) (kout := i_walReader_segment.ko1) (sh := i_walReader_segment.sh1) (F := i_walReader_segment.G1) (ops_ok (hE.gv _)) (by kernel_rfl) hh (fun R t K => by kernel_rfl)
def i_walReader_segment.sh2 : SK := ⟨[.v (.one (.bptr 0 0)), .v (.one (.bool)), .v (.one (.bptr 1 0)), .v (.one (.slo 2)), .v (.one (.int .i64)), .v (.one (.int .i64)), .v (.one (.int .i64))], [.box [.int .i64, .slo 3, .slo 4, .int .i64, .int .i64], .box [.str, .str, .int .i64], .arr .str [] true, .arr .str [] true, .arr .str [] true]⟩
def i_walReader_segment.sh2n : SK := ⟨[.v (.one (.bptr 0 0)), .v (.one (.bptr 1 0)), .v (.one (.slo 2)), .v (.one (.int .i64)), .v (.one (.int .i64))], [.box [.int .i64, .slo 3, .slo 4, .int .i64, .int .i64], .box [.str, .str, .int .i64], .arr .str [] true, .arr .str [] true, .arr .str [] true]⟩
def i_walReader_segment.sh2r : SK := ⟨[.v (.one (.bptr 0 0)), .v (.one (.int .i64))], [.box [.int .i64, .slo 1, .slo 2, .int .i64, .int .i64], .arr .str [] true, .arr .str [] true]⟩
def i_walReader_segment.ko2 : Ex → List CastAt × List Nat
  | .nrm => ([], [0, 4, 7, 8, 10])
  | .ret => ([], [0, 6])
  | .ext i => ([], [])
def i_walReader_segment.G2 (R : Type) (t : i_walReader_segment.sh2.T) (K : Ex → Kp → Option R) : Option R := i_walReader_segment.j2 (fun y0 y1 y2 y3 y4 y5 y6 y7 y8 y9 y10 => K .nrm (SK.enc i_walReader_segment.sh2n (((), (), (), y0, y1, ()), ((y2, (), (), y3, y4, ()), (y5, y6, y7, ()), y8, y9, y10, ())))) (fun y0 y1 y2 y3 y4 y5 => K .ret (SK.enc i_walReader_segment.sh2r (((), y0, ()), ((y1, (), (), y2, y3, ()), y4, y5, ())))) t.1.2.1 t.1.2.2.2.2.1 t.1.2.2.2.2.2.1 t.1.2.2.2.2.2.2.1 t.2.1.1 t.2.1.2.2.2.1 t.2.1.2.2.2.2.1 t.2.2.1.1 t.2.2.1.2.1 t.2.2.1.2.2.1 t.2.2.2.1 t.2.2.2.2.1 t.2.2.2.2.2.1
def i_walReader_segment.S2 : Sum := ⟨([], [0, 2, 4, 7, 8, 9, 10]), sumF i_walReader_segment.sh2 (i_walReader_segment.G2), i_walReader_segment.ko2⟩
theorem i_walReader_segment.ok2 (hE : EOk Tryz.prog (i_walReader_segment.E)) : SumOk Tryz.prog i_walReader_segment.E (cL (cR (cR (cR (bodyOf Tryz.f116))))) (i_walReader_segment.S2) := by
  have hh : HintOk Tryz.prog i_walReader_segment.E (cL (cR (cR (cR (bodyOf Tryz.f116))))) (.b (.n (.s (i_walReader_segment.S1)) (.a))) := HintOk.n1 (Q := (SumOk Tryz.prog i_walReader_segment.E (cL (cB (cL (cR (cR (cR (bodyOf Tryz.f116))))))) (i_walReader_segment.S1)) ∧ (True)) (by kernel_rfl) ⟨(i_walReader_segment.ok1 hE), trivial⟩
  exact sumS (kin := ([], [0, 2, 4, 7, 8, 9, 10])) (kout := i_walReader_segment.ko2) (sh := i_walReader_segment.sh2) (F := i_walReader_segment.G2) (ops_ok (hE.gv _)) (by kernel_rfl) hh (fun R t K => by kernel_rfl)
def i_walReader_segment.sh3 : SK := ⟨[.v (.one (.bptr 0 0)), .v (.one (.slo 1)), .v (.one (.int .i64))], [.box [.int .i64, .slo 2, .slo 3, .int .i64, .int .i64], .arr .str [] true, .arr .str [] true, .arr .str [] true]⟩
def i_walReader_segment.sh3n : SK := ⟨[.v (.one (.bptr 0 0)), .v (.one (.slo 1)), .v (.one (.int .i64))], [.box [.int .i64, .slo 2, .slo 3, .int .i64, .int .i64], .arr .str [] true, .arr .str [] true, .arr .str [] true]⟩
def i_walReader_segment.sh3r : SK := ⟨[.v (.one (.bptr 0 0)), .v (.one (.int .i64))], [.box [.int .i64, .slo 1, .slo 2, .int .i64, .int .i64], .arr .str [] true, .arr .str [] true]⟩
def i_walReader_segment.ko3 : Ex → List CastAt × List Nat
  | .nrm => ([], [0, 7, 11])
  | .ret => ([], [0, 6])
  | .ext i => ([], [])
def i_walReader_segment.G3 (R : Type) (t : i_walReader_segment.sh3.T) (K : Ex → Kp → Option R) : Option R := i_walReader_segment.j3 (fun y0 y1 y2 y3 y4 y5 y6 => K .nrm (SK.enc i_walReader_segment.sh3n (((), (), y0, ()), ((y1, (), (), y2, y3, ()), y4, y5, y6, ())))) (fun y0 y1 y2 y3 y4 y5 => K .ret (SK.enc i_walReader_segment.sh3r (((), y0, ()), ((y1, (), (), y2, y3, ()), y4, y5, ())))) t.1.2.2.1 t.2.1.1 t.2.1.2.2.2.1 t.2.1.2.2.2.2.1 t.2.2.1 t.2.2.2.1 t.2.2.2.2.1
def i_walReader_segment.S3 : Sum := ⟨([], [0, 7, 11]), sumF i_walReader_segment.sh3 (i_walReader_segment.G3), i_walReader_segment.ko3⟩
theorem i_walReader_segment.ok3 (hE : EOk Tryz.prog (i_walReader_segment.E)) : SumOk Tryz.prog i_walReader_segment.E (cL (cR (cR (cR (cR (cR (cR (cR (bodyOf Tryz.f116))))))))) (i_walReader_segment.S3) := by
  have hh : HintOk Tryz.prog i_walReader_segment.E (cL (cR (cR (cR (cR (cR (cR (cR (bodyOf Tryz.f116))))))))) (.a) := HintOk.n1 (Q := True) (by kernel_rfl) trivial
  exact sumS (kin := ([], [0, 7, 11])) (kout := i_walReader_segment.ko3) (sh := i_walReader_segment.sh3) (F := i_walReader_segment.G3) (ops_ok (hE.gv _)) (by kernel_rfl) hh (fun R t K => by kernel_rfl)
def i_walReader_segment.sh4 : SK := ⟨[.v (.one (.bptr 0 0)), .v (.one (.slo 1)), .v (.one (.int .i64))], [.box [.int .i64, .slo 2, .slo 3, .int .i64, .int .i64], .arr .str [] true, .arr .str [] true, .arr .str [] true]⟩
def i_walReader_segment.sh4n : SK := ⟨[.v (.one (.bptr 0 0)), .v (.one (.slo 1))], [.box [.int .i64, .slo 2, .slo 3, .int .i64, .int .i64], .arr .str [] true, .arr .str [] true, .arr .str [] true]⟩
def i_walReader_segment.ko4 : Ex → List CastAt × List Nat
  | .nrm => ([], [0, 7])
  | .ret => ([], [])
  | .ext i => ([], [])
def i_walReader_segment.G4 (R : Type) (t : i_walReader_segment.sh4.T) (K : Ex → Kp → Option R) : Option R := i_walReader_segment.j4 (fun y0 y1 y2 y3 y4 y5 => K .nrm (SK.enc i_walReader_segment.sh4n (((), (), ()), ((y0, (), (), y1, y2, ()), y3, y4, y5, ())))) t.1.2.2.1 t.2.1.1 t.2.1.2.2.2.1 t.2.1.2.2.2.2.1 t.2.2.1 t.2.2.2.1 t.2.2.2.2.1
def i_walReader_segment.S4 : Sum := ⟨([], [0, 7, 11]), sumF i_walReader_segment.sh4 (i_walReader_segment.G4), i_walReader_segment.ko4⟩
theorem i_walReader_segment.ok4 (hE : EOk Tryz.prog (i_walReader_segment.E)) : SumOk Tryz.prog i_walReader_segment.E (cL (cR (cR (cR (cR (cR (cR (cR (cR (bodyOf Tryz.f116)))))))))) (i_walReader_segment.S4) := by
  have hh : HintOk Tryz.prog i_walReader_segment.E (cL (cR (cR (cR (cR (cR (cR (cR (cR (bodyOf Tryz.f116)))))))))) (.a) := HintOk.n1 (Q := True) (by kernel_rfl) trivial
  exact sumS (kin := ([], [0, 7, 11])) (kout := i_walReader_segment.ko4) (sh := i_walReader_segment.sh4) (F := i_walReader_segment.G4) (ops_ok (hE.gv _)) (by kernel_rfl) hh (fun R t K => by kernel_rfl)
theorem i_walReader_segment.hok (hE : EOk Tryz.prog (i_walReader_segment.E)) : HintOk Tryz.prog i_walReader_segment.E (bodyOf Tryz.f116) (.n (.a) (.n (.a) (.n (.a) (.n (.s (i_walReader_segment.S2)) (.n (.a) (.n (.a) (.n (.a) (.n (.s (i_walReader_segment.S3)) (.n (.s (i_walReader_segment.S4)) (.a)))))))))) := HintOk.n1 (Q := (True) ∧ ((True) ∧ ((True) ∧ ((SumOk Tryz.prog i_walReader_segment.E (cL (cR (cR (cR (bodyOf Tryz.f116))))) (i_walReader_segment.S2)) ∧ ((True) ∧ ((True) ∧ ((True) ∧ ((SumOk Tryz.prog i_walReader_segment.E (cL (cR (cR (cR (cR (cR (cR (cR (bodyOf Tryz.f116))))))))) (i_walReader_segment.S3)) ∧ ((SumOk Tryz.prog i_walReader_segment.E (cL (cR (cR (cR (cR (cR (cR (cR (cR (bodyOf Tryz.f116)))))))))) (i_walReader_segment.S4)) ∧ (True)))))))))) (by kernel_rfl) ⟨trivial, ⟨trivial, ⟨trivial, ⟨(i_walReader_segment.ok2 hE), ⟨trivial, ⟨trivial, ⟨trivial, ⟨(i_walReader_segment.ok3 hE), ⟨(i_walReader_segment.ok4 hE), trivial⟩⟩⟩⟩⟩⟩⟩⟩⟩
theorem i_walReader_segment.hE : EOk Tryz.prog (i_walReader_segment.E) := EOk.of ttOk (⟨i_readFrames.fok, ⟨i_numberOf.fok, ⟨i_segmentOf.fok, ⟨i_Wal_next.fok, trivial⟩⟩⟩⟩)
theorem i_walReader_segment.fok : FOk Tryz.prog 116 i_walReader_segment.fi :=
  fokS (E := i_walReader_segment.E) (wy := ⟨[[none]], [[none, some (.str, true), some (.str, true), none, none], [], []], []⟩) (h := (fun gs => .n (.a) (.n (.a) (.n (.a) (.n (.s (i_walReader_segment.S2)) (.n (.a) (.n (.a) (.n (.a) (.n (.s (i_walReader_segment.S3)) (.n (.s (i_walReader_segment.S4)) (.a))))))))))) (G := fun t g => i_walReader_segment.F (fun y0 y1 y2 y3 y4 y5 => g (y0, y1, y2, y3, y4, y5)) t.1.1 t.1.2.1 t.1.2.2.1 t.1.2.2.2.1 t.1.2.2.2.2.1 t.2.1.1 t.2.1.2.1 t.2.1.2.2.1 t.2.2.1) (by kernel_rfl) i_walReader_segment.hE Tryz.func116 (by kernel_rfl) rfl (Nat.le_refl _) (fun t => HintOk.n1 (by kernel_rfl) (i_walReader_segment.hok i_walReader_segment.hE)) (fun t g => i_walReader_segment_nat g t.1.1 t.1.2.1 t.1.2.2.1 t.1.2.2.2.1 t.1.2.2.2.2.1 t.2.1.1 t.2.1.2.1 t.2.1.2.2.1 t.2.2.1) (fun t => by kernel_rfl)
/-! loop.example_g00220_impl.walRead -/
def i_walRead.l1 {R : Type} (kke0 : Int → Int → List (El kFile) → Option R) : Nat → List (El kFile) → Int → Int → Int → Int → List (El kFile) → Option R
  | 0, _, _, _, _, _, _ => none
  | n + 1, l, i, i1, i2, i3, segments =>
    cond (decide (i1 < i)) (
      grd (gIx i1 (List.length l)) <|
      (i_segmentOf ((rdE kFile l (Int.toNat i1)).1)).bind fun r =>
      cond (decide (r > (0 : Int))) (
        grd (gRm (((List.length segments) + (List.length [rdE kFile l (Int.toNat i1)])) * 40)) <|
        i_walRead.l1 kke0 n l i (IntKind.wrap .i64 (i1 + (1 : Int))) i2 i3 (segments ++ [rdE kFile l (Int.toNat i1)])) (i_walRead.l1 kke0 n l i (IntKind.wrap .i64 (i1 + (1 : Int))) i2 i3 segments)) (kke0 i2 i3 segments)
theorem i_walRead.l1_nat {R S : Type} (g : R → Option S) (kke0 : Int → Int → List (El kFile) → Option R) : ∀ (n : Nat) (l : List (El kFile)) (i : Int) (i1 : Int) (i2 : Int) (i3 : Int) (segments : List (El kFile)), i_walRead.l1 (fun y0 y1 y2 => (kke0 y0 y1 y2).bind g) n l i i1 i2 i3 segments = (i_walRead.l1 kke0 n l i i1 i2 i3 segments).bind g := by
  intro n
  induction n with
  | zero => intros; rfl
  | succ n ih => intros; simp only [i_walRead.l1, grd_bind, cnd_bind, bnd_bind, non_bind, ih]
def i_walRead.l2 {R : Type} (kke2 : Int → Int → Int → Int → Int → List ByteArray → List ByteArray → Option R) (kkr : Int → Int → Int → Option R) : Nat → Int → Int → Int → Int → List (El kFile) → Int → Int → Int → List ByteArray → List ByteArray → Option R
  | 0, _, _, _, _, _, _, _, _, _, _ => none
  | n + 1, i, i1, i2, i3, segments, r, r1, r2, l, l1 =>
    cond (decide (i1 < i)) (
      grd (gIx i1 (List.length segments)) <|
      (i_walReader_segment r l l1 r1 r2 ((rdE kFile segments (Int.toNat i1)).1) ((rdE kFile segments (Int.toNat i1)).2.1) ((rdE kFile segments (Int.toNat i1)).2.2) (i1 == (IntKind.wrap .i64 ((List.length segments : Int) - (1 : Int))))).bind fun r3 =>
      cond (r3.1 != (0 : Int)) (kkr r3.1 (0 : Int) (0 : Int)) (
        i_walRead.l2 kke2 kkr n i (IntKind.wrap .i64 (i1 + (1 : Int))) i2 i3 segments r3.2.1 r3.2.2.2.2.1 r3.2.2.2.2.2 r3.2.2.1 r3.2.2.2.1)) (kke2 i2 i3 r r1 r2 l l1)
theorem i_walRead.l2_nat {R S : Type} (g : R → Option S) (kke2 : Int → Int → Int → Int → Int → List ByteArray → List ByteArray → Option R) (kkr : Int → Int → Int → Option R) : ∀ (n : Nat) (i : Int) (i1 : Int) (i2 : Int) (i3 : Int) (segments : List (El kFile)) (r : Int) (r1 : Int) (r2 : Int) (l : List ByteArray) (l1 : List ByteArray), i_walRead.l2 (fun y0 y1 y2 y3 y4 y5 y6 => (kke2 y0 y1 y2 y3 y4 y5 y6).bind g) (fun y0 y1 y2 => (kkr y0 y1 y2).bind g) n i i1 i2 i3 segments r r1 r2 l l1 = (i_walRead.l2 kke2 kkr n i i1 i2 i3 segments r r1 r2 l l1).bind g := by
  intro n
  induction n with
  | zero => intros; rfl
  | succ n ih => intros; simp only [i_walRead.l2, grd_bind, cnd_bind, bnd_bind, non_bind, ih]
def i_walRead.F {R : Type} (kk : Int → List ByteArray → List ByteArray → Int → Int → Option R) (d_Room : Int) (d_Files : List (El kFile)) : Option R :=
  i_walRead.l1 (fun i i1 segments =>
    i_walRead.l2 (fun i2 i3 r r1 r2 l l1 => kk r l l1 r1 (0 : Int)) (fun i4 i5 i6 => kk i5 [] [] i6 i4) fuel (List.length segments : Int) (0 : Int) i i1 segments (0 : Int) (0 : Int) (0 : Int) [] []) fuel d_Files (List.length d_Files : Int) (0 : Int) (0 : Int) (0 : Int) ([] : List (El kFile))
theorem i_walRead.F_nat {R S : Type} (g : R → Option S) (kk : Int → List ByteArray → List ByteArray → Int → Int → Option R) (d_Room : Int) (d_Files : List (El kFile)) : i_walRead.F (fun y0 y1 y2 y3 y4 => (kk y0 y1 y2 y3 y4).bind g) d_Room d_Files = (i_walRead.F kk d_Room d_Files).bind g := by
  simp only [i_walRead.F, grd_bind, cnd_bind, bnd_bind, non_bind, ← i_walRead.l1_nat, ← i_walRead.l2_nat]
def i_walRead (d_Room : Int) (d_Files : List (El kFile)) : Option (Int × List ByteArray × List ByteArray × Int × Int) := i_walRead.F (fun y0 y1 y2 y3 y4 => some (y0, y1, y2, y3, y4)) d_Room d_Files
theorem i_walRead_nat {S : Type} (g : (Int × List ByteArray × List ByteArray × Int × Int) → Option S) (d_Room : Int) (d_Files : List (El kFile)) : i_walRead.F (fun y0 y1 y2 y3 y4 => g (y0, y1, y2, y3, y4)) d_Room d_Files = (i_walRead d_Room d_Files).bind g := i_walRead.F_nat g (fun y0 y1 y2 y3 y4 => some (y0, y1, y2, y3, y4)) d_Room d_Files
def i_walRead.out : (Int × List ByteArray × List ByteArray × Int × Int) → CRes := fun a => ⟨encL SV.enc [.agg [.int .i64, .own [] .str true, .own [] .str true, .int .i64], .one (.int .i64)] ((a.1, a.2.1, a.2.2.1, a.2.2.2.1, ()), a.2.2.2.2, ()), [encL SC.enc [] ()]⟩
def i_walRead.ps : List PS := [.val [none, some (kFile, false)]]
def i_walRead.sA : List SA := [.v (.agg [.int .i64, .slv [] kFile])]
def i_walRead.fi : FI := FIs i_walRead.sA (Int × List ByteArray × List ByteArray × Int × Int) (fun t => i_walRead t.1.1 t.1.2.1) i_walRead.out i_walRead.ps
def i_walRead.E : Env := ⟨tt, lkF [(115, i_segmentOf.fi), (116, i_walReader_segment.fi)], 54, 0, [], []⟩
def i_walRead.sh1 : SK := ⟨[.v (.one (.bptr 0 0)), .v (.one (.slo 1)), .v (.one (.slv [1] kFile)), .v (.one (.int .i64)), .v (.one (.int .i64))], [.box [.int .i64, .nil, .nil, .int .i64], .arr kFile [] true]⟩
def i_walRead.sh1e0 : SK := ⟨[.v (.one (.bptr 0 0)), .v (.one (.slo 1))], [.box [.int .i64, .nil, .nil, .int .i64], .arr kFile [] true]⟩
def i_walRead.ko1 : Ex → List CastAt × List Nat
  | .nrm => ([], [])
  | .ret => ([], [])
  | .ext i => cond (Nat.beq i 0) ([], [2, 4]) ([], [])
def i_walRead.G1 (n : Nat) (R : Type) (t : i_walRead.sh1.T) (K : Ex → Kp → Option R) : Option R := i_walRead.l1 (fun y0 y1 y2 => K (.ext 0) (SK.enc i_walRead.sh1e0 (((), (), ()), ((y0, (), (), y1, ()), y2, ())))) n t.1.2.2.1 t.1.2.2.2.1 t.1.2.2.2.2.1 t.2.1.1 t.2.1.2.2.2.1 t.2.2.1
def i_walRead.S1 : Sum := ⟨([], [2, 4, 13, 14, 15]), sumF i_walRead.sh1 (i_walRead.G1 fuel), i_walRead.ko1⟩
theorem i_walRead.ok1 (hE : EOk Tryz.prog (i_walRead.E)) : SumOk Tryz.prog i_walRead.E (cB (cR (cL (cR (cR (bodyOf Tryz.f66)))))) (i_walRead.S1) := by
  have hh : HintOk Tryz.prog i_walRead.E (cB (cB (cR (cL (cR (cR (bodyOf Tryz.f66))))))) (.a) := HintOk.n1 (Q := True) (by kernel_rfl) trivial
  have h := loopS (kin := ([], [2, 4, 13, 14, 15])) (kout := i_walRead.ko1) (sh := i_walRead.sh1) (F := i_walRead.G1) (ops_ok (hE.gv _)) (by kernel_rfl) hh (fun _ _ _ => rfl) (fun n R t K => by kernel_rfl) fuel
  exact HintOk.n1 (c := (cB (cR (cL (cR (cR (bodyOf Tryz.f66))))))) (h := .s (i_walRead.S1)) (P := Tryz.prog) (E := i_walRead.E) (by kernel_rfl) h
def i_walRead.sh2 : SK := ⟨[.v (.one (.bptr 0 0)), .v (.one (.slo 1)), .v (.one (.bptr 2 0)), .v (.one (.slo 1)), .v (.one (.int .i64)), .v (.one (.int .i64))], [.box [.int .i64, .nil, .nil, .int .i64], .arr kFile [] true, .box [.int .i64, .slo 3, .slo 4, .int .i64, .int .i64], .arr .str [] true, .arr .str [] true]⟩
def i_walRead.sh2e2 : SK := ⟨[.v (.one (.bptr 0 0)), .v (.one (.bptr 1 0))], [.box [.int .i64, .nil, .nil, .int .i64], .box [.int .i64, .slo 2, .slo 3, .int .i64, .int .i64], .arr .str [] true, .arr .str [] true]⟩
def i_walRead.sh2r : SK := ⟨[.v (.one (.bptr 0 0)), .v (.one (.int .i64))], [.box [.int .i64, .nil, .nil, .int .i64]]⟩
def i_walRead.ko2 : Ex → List CastAt × List Nat
  | .nrm => ([], [])
  | .ret => ([], [2, 3])
  | .ext i => cond (Nat.beq i 2) ([], [2, 7]) ([], [])
def i_walRead.G2 (n : Nat) (R : Type) (t : i_walRead.sh2.T) (K : Ex → Kp → Option R) : Option R := i_walRead.l2 (fun y0 y1 y2 y3 y4 y5 y6 => K (.ext 2) (SK.enc i_walRead.sh2e2 (((), (), ()), ((y0, (), (), y1, ()), (y2, (), (), y3, y4, ()), y5, y6, ())))) (fun y0 y1 y2 => K .ret (SK.enc i_walRead.sh2r (((), y0, ()), ((y1, (), (), y2, ()), ())))) n t.1.2.2.2.2.1 t.1.2.2.2.2.2.1 t.2.1.1 t.2.1.2.2.2.1 t.2.2.1 t.2.2.2.1.1 t.2.2.2.1.2.2.2.1 t.2.2.2.1.2.2.2.2.1 t.2.2.2.2.1 t.2.2.2.2.2.1
def i_walRead.S2 : Sum := ⟨([⟨7, true, 1, .own .str⟩, ⟨7, true, 2, .own .str⟩], [2, 4, 7, 30, 31, 32]), sumF i_walRead.sh2 (i_walRead.G2 fuel), i_walRead.ko2⟩
theorem i_walRead.ok2 (hE : EOk Tryz.prog (i_walRead.E)) : SumOk Tryz.prog i_walRead.E (cB (cR (cL (cR (cR (cR (cR (bodyOf Tryz.f66)))))))) (i_walRead.S2) := by
  have hh : HintOk Tryz.prog i_walRead.E (cB (cB (cR (cL (cR (cR (cR (cR (bodyOf Tryz.f66))))))))) (.a) := HintOk.n1 (Q := True) (by kernel_rfl) trivial
  have h := loopS (kin := ([⟨7, true, 1, .own .str⟩, ⟨7, true, 2, .own .str⟩], [2, 4, 7, 30, 31, 32])) (kout := i_walRead.ko2) (sh := i_walRead.sh2) (F := i_walRead.G2) (ops_ok (hE.gv _)) (by kernel_rfl) hh (fun _ _ _ => rfl) (fun n R t K => by kernel_rfl) fuel
  exact HintOk.n1 (c := (cB (cR (cL (cR (cR (cR (cR (bodyOf Tryz.f66))))))))) (h := .s (i_walRead.S2)) (P := Tryz.prog) (E := i_walRead.E) (by kernel_rfl) h
theorem i_walRead.hok (hE : EOk Tryz.prog (i_walRead.E)) : HintOk Tryz.prog i_walRead.E (bodyOf Tryz.f66) (.n (.a) (.n (.a) (.n (.n (.a) (.b (.s (i_walRead.S1)))) (.n (.a) (.n (.n (.a) (.b (.s (i_walRead.S2)))) (.a)))))) := HintOk.n1 (Q := (True) ∧ ((True) ∧ (((True) ∧ (SumOk Tryz.prog i_walRead.E (cB (cR (cL (cR (cR (bodyOf Tryz.f66)))))) (i_walRead.S1))) ∧ ((True) ∧ (((True) ∧ (SumOk Tryz.prog i_walRead.E (cB (cR (cL (cR (cR (cR (cR (bodyOf Tryz.f66)))))))) (i_walRead.S2))) ∧ (True)))))) (by kernel_rfl) ⟨trivial, ⟨trivial, ⟨⟨trivial, (i_walRead.ok1 hE)⟩, ⟨trivial, ⟨⟨trivial, (i_walRead.ok2 hE)⟩, trivial⟩⟩⟩⟩⟩
theorem i_walRead.hE : EOk Tryz.prog (i_walRead.E) := EOk.of ttOk (⟨i_segmentOf.fok, ⟨i_walReader_segment.fok, trivial⟩⟩)
theorem i_walRead.fok : FOk Tryz.prog 66 i_walRead.fi :=
  fokS (E := i_walRead.E) (wy := ⟨[[none, some (.str, true), some (.str, true), none], [none]], [[]], []⟩) (h := (fun gs => .n (.a) (.n (.a) (.n (.n (.a) (.b (.s (i_walRead.S1)))) (.n (.a) (.n (.n (.a) (.b (.s (i_walRead.S2)))) (.a))))))) (G := fun t g => i_walRead.F (fun y0 y1 y2 y3 y4 => g (y0, y1, y2, y3, y4)) t.1.1 t.1.2.1) (by kernel_rfl) i_walRead.hE Tryz.func66 (by kernel_rfl) rfl (Nat.le_refl _) (fun t => HintOk.n1 (by kernel_rfl) (i_walRead.hok i_walRead.hE)) (fun t g => i_walRead_nat g t.1.1 t.1.2.1) (fun t => by kernel_rfl)
/-! loop.example_g00220_impl.WalRead -/
def i_WalRead.F {R : Type} (kk : Int → List ByteArray → List ByteArray → Int → Int → Option R) (d_Room : Int) (d_Files : List (El kFile)) : Option R :=
  (i_DiskOK d_Room d_Files).bind fun r =>
  cond (!r) (kk (0 : Int) [] [] (0 : Int) (1 : Int)) (
    (i_walRead d_Room d_Files).bind fun r1 =>
    kk r1.1 r1.2.1 r1.2.2.1 r1.2.2.2.1 r1.2.2.2.2)
theorem i_WalRead.F_nat {R S : Type} (g : R → Option S) (kk : Int → List ByteArray → List ByteArray → Int → Int → Option R) (d_Room : Int) (d_Files : List (El kFile)) : i_WalRead.F (fun y0 y1 y2 y3 y4 => (kk y0 y1 y2 y3 y4).bind g) d_Room d_Files = (i_WalRead.F kk d_Room d_Files).bind g := by
  simp only [i_WalRead.F, grd_bind, cnd_bind, bnd_bind, non_bind]
def i_WalRead (d_Room : Int) (d_Files : List (El kFile)) : Option (Int × List ByteArray × List ByteArray × Int × Int) := i_WalRead.F (fun y0 y1 y2 y3 y4 => some (y0, y1, y2, y3, y4)) d_Room d_Files
theorem i_WalRead_nat {S : Type} (g : (Int × List ByteArray × List ByteArray × Int × Int) → Option S) (d_Room : Int) (d_Files : List (El kFile)) : i_WalRead.F (fun y0 y1 y2 y3 y4 => g (y0, y1, y2, y3, y4)) d_Room d_Files = (i_WalRead d_Room d_Files).bind g := i_WalRead.F_nat g (fun y0 y1 y2 y3 y4 => some (y0, y1, y2, y3, y4)) d_Room d_Files
def i_WalRead.out : (Int × List ByteArray × List ByteArray × Int × Int) → CRes := fun a => ⟨encL SV.enc [.agg [.int .i64, .own [] .str true, .own [] .str true, .int .i64], .one (.int .i64)] ((a.1, a.2.1, a.2.2.1, a.2.2.2.1, ()), a.2.2.2.2, ()), [encL SC.enc [] ()]⟩
def i_WalRead.ps : List PS := [.val [none, some (kFile, false)]]
def i_WalRead.sA : List SA := [.v (.agg [.int .i64, .slv [] kFile])]
def i_WalRead.fi : FI := FIs i_WalRead.sA (Int × List ByteArray × List ByteArray × Int × Int) (fun t => i_WalRead t.1.1 t.1.2.1) i_WalRead.out i_WalRead.ps
def i_WalRead.E : Env := ⟨tt, lkF [(65, i_DiskOK.fi), (66, i_walRead.fi)], 12, 0, [], []⟩
theorem i_WalRead.hok (hE : EOk Tryz.prog (i_WalRead.E)) : HintOk Tryz.prog i_WalRead.E (bodyOf Tryz.f21) (.a) := HintOk.n1 (Q := True) (by kernel_rfl) trivial
theorem i_WalRead.hE : EOk Tryz.prog (i_WalRead.E) := EOk.of ttOk (⟨i_DiskOK.fok, ⟨i_walRead.fok, trivial⟩⟩)
theorem i_WalRead.fok : FOk Tryz.prog 21 i_WalRead.fi :=
  fokS (E := i_WalRead.E) (wy := ⟨[[none, some (.str, true), some (.str, true), none], [none]], [[]], []⟩) (h := (fun gs => .a)) (G := fun t g => i_WalRead.F (fun y0 y1 y2 y3 y4 => g (y0, y1, y2, y3, y4)) t.1.1 t.1.2.1) (by kernel_rfl) i_WalRead.hE Tryz.func21 (by kernel_rfl) rfl (Nat.le_refl _) (fun t => HintOk.n1 (by kernel_rfl) (i_WalRead.hok i_WalRead.hE)) (fun t g => i_WalRead_nat g t.1.1 t.1.2.1) (fun t => by kernel_rfl)
/-! slices.Clone___loop.example_g00220_impl.File_loop.example_g00220_impl.File_ -/
def slices_Clone_SLi_File_i_File.F {R : Type} (kk : List (El kFile) → Option R) (s : List (El kFile)) : Option R :=
  cond (List.isEmpty s) (
    agree (kk []) (
      grd (gRm (((List.length ([] : List (El kFile))) + (List.length s)) * 40)) <|
      kk (([] : List (El kFile)) ++ s))) (
    grd (gRm (((List.length ([] : List (El kFile))) + (List.length s)) * 40)) <|
    kk (([] : List (El kFile)) ++ s))
theorem slices_Clone_SLi_File_i_File.F_nat {R S : Type} (g : R → Option S) (kk : List (El kFile) → Option R) (s : List (El kFile)) : slices_Clone_SLi_File_i_File.F (fun y0 => (kk y0).bind g) s = (slices_Clone_SLi_File_i_File.F kk s).bind g := by
  cases s with
  | nil =>
    have e : ∀ {R : Type} (k : List (El kFile) → Option R), slices_Clone_SLi_File_i_File.F k [] = agree (k []) (k []) := fun k => by kernel_rfl
    rw [e, e, agree_self, agree_self]
  | cons x l => simp only [slices_Clone_SLi_File_i_File.F, List.isEmpty_cons, cond_false, grd_bind]
def slices_Clone_SLi_File_i_File (s : List (El kFile)) : Option (List (El kFile)) := slices_Clone_SLi_File_i_File.F (fun y0 => some y0) s
theorem slices_Clone_SLi_File_i_File_nat {S : Type} (g : (List (El kFile)) → Option S) (s : List (El kFile)) : slices_Clone_SLi_File_i_File.F (fun y0 => g y0) s = (slices_Clone_SLi_File_i_File s).bind g := slices_Clone_SLi_File_i_File.F_nat g (fun y0 => some y0) s
def slices_Clone_SLi_File_i_File.out : (List (El kFile)) → CRes := fun a => ⟨encL SV.enc [.one (.own [] kFile true)] (a, ()), [encL SC.enc [] ()]⟩
def slices_Clone_SLi_File_i_File.ps : List PS := [.val [some (kFile, false)]]
def slices_Clone_SLi_File_i_File.sA : List SA := [.v (.one (.slv [] kFile))]
def slices_Clone_SLi_File_i_File.fi : FI := FIs slices_Clone_SLi_File_i_File.sA (List (El kFile)) (fun t => slices_Clone_SLi_File_i_File t.1) slices_Clone_SLi_File_i_File.out slices_Clone_SLi_File_i_File.ps
def slices_Clone_SLi_File_i_File.E : Env := ⟨tt, lkF [], 8, 0, [], []⟩
theorem slices_Clone_SLi_File_i_File.hok (hE : EOk Tryz.prog (slices_Clone_SLi_File_i_File.E)) : HintOk Tryz.prog slices_Clone_SLi_File_i_File.E (bodyOf Tryz.f101) (.a) := HintOk.n1 (Q := True) (by kernel_rfl) trivial
theorem slices_Clone_SLi_File_i_File.hE : EOk Tryz.prog (slices_Clone_SLi_File_i_File.E) := EOk.of ttOk (trivial)
theorem slices_Clone_SLi_File_i_File.fok : FOk Tryz.prog 101 slices_Clone_SLi_File_i_File.fi :=
  fokS (E := slices_Clone_SLi_File_i_File.E) (wy := ⟨[[some (kFile, true)]], [[]], []⟩) (h := (fun gs => .a)) (G := fun t g => slices_Clone_SLi_File_i_File.F (fun y0 => g y0) t.1) (by kernel_rfl) slices_Clone_SLi_File_i_File.hE Tryz.func101 (by kernel_rfl) rfl (Nat.le_refl _) (fun t => HintOk.n1 (by kernel_rfl) (slices_Clone_SLi_File_i_File.hok slices_Clone_SLi_File_i_File.hE)) (fun t g => slices_Clone_SLi_File_i_File_nat g t.1) (fun t => by kernel_rfl)
/-! loop.example_g00220_impl.copyDisk -/
def i_copyDisk.F {R : Type} (kk : Int → List (El kFile) → Option R) (d_Room : Int) (d_Files : List (El kFile)) : Option R :=
  (slices_Clone_SLi_File_i_File d_Files).bind fun r =>
  kk d_Room r
theorem i_copyDisk.F_nat {R S : Type} (g : R → Option S) (kk : Int → List (El kFile) → Option R) (d_Room : Int) (d_Files : List (El kFile)) : i_copyDisk.F (fun y0 y1 => (kk y0 y1).bind g) d_Room d_Files = (i_copyDisk.F kk d_Room d_Files).bind g := by
  simp only [i_copyDisk.F, grd_bind, cnd_bind, bnd_bind, non_bind]
def i_copyDisk (d_Room : Int) (d_Files : List (El kFile)) : Option (Int × List (El kFile)) := i_copyDisk.F (fun y0 y1 => some (y0, y1)) d_Room d_Files
theorem i_copyDisk_nat {S : Type} (g : (Int × List (El kFile)) → Option S) (d_Room : Int) (d_Files : List (El kFile)) : i_copyDisk.F (fun y0 y1 => g (y0, y1)) d_Room d_Files = (i_copyDisk d_Room d_Files).bind g := i_copyDisk.F_nat g (fun y0 y1 => some (y0, y1)) d_Room d_Files
def i_copyDisk.out : (Int × List (El kFile)) → CRes := fun a => ⟨encL SV.enc [.agg [.int .i64, .own [] kFile true]] ((a.1, a.2, ()), ()), [encL SC.enc [] ()]⟩
def i_copyDisk.ps : List PS := [.val [none, some (kFile, false)]]
def i_copyDisk.sA : List SA := [.v (.agg [.int .i64, .slv [] kFile])]
def i_copyDisk.fi : FI := FIs i_copyDisk.sA (Int × List (El kFile)) (fun t => i_copyDisk t.1.1 t.1.2.1) i_copyDisk.out i_copyDisk.ps
def i_copyDisk.E : Env := ⟨tt, lkF [(101, slices_Clone_SLi_File_i_File.fi)], 9, 0, [], []⟩
theorem i_copyDisk.hok (hE : EOk Tryz.prog (i_copyDisk.E)) : HintOk Tryz.prog i_copyDisk.E (bodyOf Tryz.f53) (.a) := HintOk.n1 (Q := True) (by kernel_rfl) trivial
theorem i_copyDisk.hE : EOk Tryz.prog (i_copyDisk.E) := EOk.of ttOk (⟨slices_Clone_SLi_File_i_File.fok, trivial⟩)
theorem i_copyDisk.fok : FOk Tryz.prog 53 i_copyDisk.fi :=
  fokS (E := i_copyDisk.E) (wy := ⟨[[none, some (kFile, true)]], [[]], []⟩) (h := (fun gs => .a)) (G := fun t g => i_copyDisk.F (fun y0 y1 => g (y0, y1)) t.1.1 t.1.2.1) (by kernel_rfl) i_copyDisk.hE Tryz.func53 (by kernel_rfl) rfl (Nat.le_refl _) (fun t => HintOk.n1 (by kernel_rfl) (i_copyDisk.hok i_copyDisk.hE)) (fun t g => i_copyDisk_nat g t.1.1 t.1.2.1) (fun t => by kernel_rfl)
/-! slices.BinarySearchFunc___loop.example_g00220_impl.File_loop.example_g00220_impl.File_string_ -/
def slices_BinarySearchFunc_SLi_File_i_File_string.l1 {R : Type} (cmp : (((ByteArray × ByteArray × Int × Unit) × ByteArray × Unit) → Option (Int × Unit))) (kke0 : List (El kFile) → ByteArray → Int → Int → Option R) : Nat → List (El kFile) → ByteArray → Int → Int → Int → Option R
  | 0, _, _, _, _, _ => none
  | n + 1, x, target, n_, i, j =>
    cond (decide (i < j)) (
      grd (gSh (1 : Int)) <|
      grd (gIx (IntKind.wrap .i64 (iShr .u64 (IntKind.wrap .u64 (IntKind.wrap .i64 (i + j))) (1 : Int))) (List.length x)) <|
      (cmp (((rdE kFile x (Int.toNat (IntKind.wrap .i64 (iShr .u64 (IntKind.wrap .u64 (IntKind.wrap .i64 (i + j))) (1 : Int))))).1, (rdE kFile x (Int.toNat (IntKind.wrap .i64 (iShr .u64 (IntKind.wrap .u64 (IntKind.wrap .i64 (i + j))) (1 : Int))))).2.1, (rdE kFile x (Int.toNat (IntKind.wrap .i64 (iShr .u64 (IntKind.wrap .u64 (IntKind.wrap .i64 (i + j))) (1 : Int))))).2.2, ()), target, ())).bind fun r =>
      cond (decide (r.1 < (0 : Int))) (
        slices_BinarySearchFunc_SLi_File_i_File_string.l1 cmp kke0 n x target n_ (IntKind.wrap .i64 ((IntKind.wrap .i64 (iShr .u64 (IntKind.wrap .u64 (IntKind.wrap .i64 (i + j))) (1 : Int))) + (1 : Int))) j) (
        slices_BinarySearchFunc_SLi_File_i_File_string.l1 cmp kke0 n x target n_ i (IntKind.wrap .i64 (iShr .u64 (IntKind.wrap .u64 (IntKind.wrap .i64 (i + j))) (1 : Int))))) (kke0 x target n_ i)
theorem slices_BinarySearchFunc_SLi_File_i_File_string.l1_nat {R S : Type} (g : R → Option S) (cmp : (((ByteArray × ByteArray × Int × Unit) × ByteArray × Unit) → Option (Int × Unit))) (kke0 : List (El kFile) → ByteArray → Int → Int → Option R) : ∀ (n : Nat) (x : List (El kFile)) (target : ByteArray) (n_ : Int) (i : Int) (j : Int), slices_BinarySearchFunc_SLi_File_i_File_string.l1 cmp (fun y0 y1 y2 y3 => (kke0 y0 y1 y2 y3).bind g) n x target n_ i j = (slices_BinarySearchFunc_SLi_File_i_File_string.l1 cmp kke0 n x target n_ i j).bind g := by
  intro n
  induction n with
  | zero => intros; rfl
  | succ n ih => intros; simp only [slices_BinarySearchFunc_SLi_File_i_File_string.l1, grd_bind, cnd_bind, bnd_bind, non_bind, ih]
def slices_BinarySearchFunc_SLi_File_i_File_string.F {R : Type} (kk : Int → Bool → Option R) (x : List (El kFile)) (target : ByteArray) (cmp : (((ByteArray × ByteArray × Int × Unit) × ByteArray × Unit) → Option (Int × Unit))) : Option R :=
  slices_BinarySearchFunc_SLi_File_i_File_string.l1 cmp (fun x1 target1 n_ i =>
    cond (decide (i < n_)) (
      grd (gIx i (List.length x1)) <|
      (cmp (((rdE kFile x1 (Int.toNat i)).1, (rdE kFile x1 (Int.toNat i)).2.1, (rdE kFile x1 (Int.toNat i)).2.2, ()), target1, ())).bind fun r =>
      kk i (r.1 == (0 : Int))) (kk i false)) fuel x target (List.length x : Int) (0 : Int) (List.length x : Int)
theorem slices_BinarySearchFunc_SLi_File_i_File_string.F_nat {R S : Type} (g : R → Option S) (kk : Int → Bool → Option R) (x : List (El kFile)) (target : ByteArray) (cmp : (((ByteArray × ByteArray × Int × Unit) × ByteArray × Unit) → Option (Int × Unit))) : slices_BinarySearchFunc_SLi_File_i_File_string.F (fun y0 y1 => (kk y0 y1).bind g) x target cmp = (slices_BinarySearchFunc_SLi_File_i_File_string.F kk x target cmp).bind g := by
  simp only [slices_BinarySearchFunc_SLi_File_i_File_string.F, grd_bind, cnd_bind, bnd_bind, non_bind, ← slices_BinarySearchFunc_SLi_File_i_File_string.l1_nat]
def slices_BinarySearchFunc_SLi_File_i_File_string (x : List (El kFile)) (target : ByteArray) (cmp : (((ByteArray × ByteArray × Int × Unit) × ByteArray × Unit) → Option (Int × Unit))) : Option (Int × Bool) := slices_BinarySearchFunc_SLi_File_i_File_string.F (fun y0 y1 => some (y0, y1)) x target cmp
theorem slices_BinarySearchFunc_SLi_File_i_File_string_nat {S : Type} (g : (Int × Bool) → Option S) (x : List (El kFile)) (target : ByteArray) (cmp : (((ByteArray × ByteArray × Int × Unit) × ByteArray × Unit) → Option (Int × Unit))) : slices_BinarySearchFunc_SLi_File_i_File_string.F (fun y0 y1 => g (y0, y1)) x target cmp = (slices_BinarySearchFunc_SLi_File_i_File_string x target cmp).bind g := slices_BinarySearchFunc_SLi_File_i_File_string.F_nat g (fun y0 y1 => some (y0, y1)) x target cmp
def slices_BinarySearchFunc_SLi_File_i_File_string.out : (Int × Bool) → CRes := fun a => ⟨encL SV.enc [.one (.int .i64), .one (.bool)] (a.1, a.2, ()), [encL SC.enc [] (), encL SC.enc [] (), encL SC.enc [] ()]⟩
def slices_BinarySearchFunc_SLi_File_i_File_string.ps : List PS := [.val [some (kFile, false)], .val [none], .fn [.one (.int .i64)]]
def slices_BinarySearchFunc_SLi_File_i_File_string.sA : List SA := [.v (.one (.slv [] kFile)), .v (.one (.str)), .fn [.agg [.str, .str, .int .i64], .one (.str)] [.one (.int .i64)]]
def slices_BinarySearchFunc_SLi_File_i_File_string.fi : FI := FIs slices_BinarySearchFunc_SLi_File_i_File_string.sA (Int × Bool) (fun t => slices_BinarySearchFunc_SLi_File_i_File_string t.1 t.2.1 t.2.2.1) slices_BinarySearchFunc_SLi_File_i_File_string.out slices_BinarySearchFunc_SLi_File_i_File_string.ps
def slices_BinarySearchFunc_SLi_File_i_File_string.E : Env := ⟨tt, lkF [], 49, 0, [], []⟩
def slices_BinarySearchFunc_SLi_File_i_File_string.sh1 : SK := ⟨[.v (.one (.slv [1] kFile)), .v (.one (.str)), .v (.one (.fv 0)), .v (.one (.int .i64)), .v (.one (.int .i64)), .v (.one (.int .i64))], []⟩
def slices_BinarySearchFunc_SLi_File_i_File_string.sh1e0 : SK := ⟨[.v (.one (.slv [1] kFile)), .v (.one (.str)), .v (.one (.fv 0)), .v (.one (.int .i64)), .v (.one (.int .i64))], []⟩
def slices_BinarySearchFunc_SLi_File_i_File_string.ko1 : Ex → List CastAt × List Nat
  | .nrm => ([], [])
  | .ret => ([], [])
  | .ext i => cond (Nat.beq i 0) ([], [0, 1, 2, 8, 9]) ([], [])
def slices_BinarySearchFunc_SLi_File_i_File_string.G1 (cmp : (((ByteArray × ByteArray × Int × Unit) × ByteArray × Unit) → Option (Int × Unit))) (n : Nat) (R : Type) (t : slices_BinarySearchFunc_SLi_File_i_File_string.sh1.T) (K : Ex → Kp → Option R) : Option R := slices_BinarySearchFunc_SLi_File_i_File_string.l1 cmp (fun y0 y1 y2 y3 => K (.ext 0) (SK.enc slices_BinarySearchFunc_SLi_File_i_File_string.sh1e0 ((y0, y1, (), y2, y3, ()), ()))) n t.1.1 t.1.2.1 t.1.2.2.2.1 t.1.2.2.2.2.1 t.1.2.2.2.2.2.1
def slices_BinarySearchFunc_SLi_File_i_File_string.S1 (cmp : (((ByteArray × ByteArray × Int × Unit) × ByteArray × Unit) → Option (Int × Unit))) : Sum := ⟨([], [0, 1, 2, 8, 9, 10]), sumF slices_BinarySearchFunc_SLi_File_i_File_string.sh1 (slices_BinarySearchFunc_SLi_File_i_File_string.G1 cmp fuel), slices_BinarySearchFunc_SLi_File_i_File_string.ko1⟩
theorem slices_BinarySearchFunc_SLi_File_i_File_string.ok1 (cmp : (((ByteArray × ByteArray × Int × Unit) × ByteArray × Unit) → Option (Int × Unit))) (hE : EOk Tryz.prog (slices_BinarySearchFunc_SLi_File_i_File_string.E)) : SumOk Tryz.prog { (slices_BinarySearchFunc_SLi_File_i_File_string.E) with gv := [fnE [.agg [.str, .str, .int .i64], .one (.str)] [.one (.int .i64)] cmp] } (cB (cL (cR (cR (cR (bodyOf Tryz.f127)))))) (slices_BinarySearchFunc_SLi_File_i_File_string.S1 cmp) := by
  have hh : HintOk Tryz.prog { (slices_BinarySearchFunc_SLi_File_i_File_string.E) with gv := [fnE [.agg [.str, .str, .int .i64], .one (.str)] [.one (.int .i64)] cmp] } (cB (cB (cL (cR (cR (cR (bodyOf Tryz.f127))))))) (.a) := HintOk.n1 (Q := True) (by kernel_rfl) trivial
  have h := loopS (kin := ([], [0, 1, 2, 8, 9, 10])) (kout := slices_BinarySearchFunc_SLi_File_i_File_string.ko1) (sh := slices_BinarySearchFunc_SLi_File_i_File_string.sh1) (F := slices_BinarySearchFunc_SLi_File_i_File_string.G1 cmp) (ops_ok (hE.gv _)) (by kernel_rfl) hh (fun _ _ _ => rfl) (fun n R t K => by kernel_rfl) fuel
  exact HintOk.n1 (c := (cB (cL (cR (cR (cR (bodyOf Tryz.f127))))))) (h := .s (slices_BinarySearchFunc_SLi_File_i_File_string.S1 cmp)) (P := Tryz.prog) (E := { (slices_BinarySearchFunc_SLi_File_i_File_string.E) with gv := [fnE [.agg [.str, .str, .int .i64], .one (.str)] [.one (.int .i64)] cmp] }) (by kernel_rfl) h
theorem slices_BinarySearchFunc_SLi_File_i_File_string.hok (cmp : (((ByteArray × ByteArray × Int × Unit) × ByteArray × Unit) → Option (Int × Unit))) (hE : EOk Tryz.prog (slices_BinarySearchFunc_SLi_File_i_File_string.E)) : HintOk Tryz.prog { (slices_BinarySearchFunc_SLi_File_i_File_string.E) with gv := [fnE [.agg [.str, .str, .int .i64], .one (.str)] [.one (.int .i64)] cmp] } (bodyOf Tryz.f127) (.n (.a) (.n (.a) (.n (.a) (.n (.b (.s (slices_BinarySearchFunc_SLi_File_i_File_string.S1 cmp))) (.a))))) := HintOk.n1 (Q := (True) ∧ ((True) ∧ ((True) ∧ ((SumOk Tryz.prog { (slices_BinarySearchFunc_SLi_File_i_File_string.E) with gv := [fnE [.agg [.str, .str, .int .i64], .one (.str)] [.one (.int .i64)] cmp] } (cB (cL (cR (cR (cR (bodyOf Tryz.f127)))))) (slices_BinarySearchFunc_SLi_File_i_File_string.S1 cmp)) ∧ (True))))) (by kernel_rfl) ⟨trivial, ⟨trivial, ⟨trivial, ⟨(slices_BinarySearchFunc_SLi_File_i_File_string.ok1 cmp hE), trivial⟩⟩⟩⟩
theorem slices_BinarySearchFunc_SLi_File_i_File_string.hE : EOk Tryz.prog (slices_BinarySearchFunc_SLi_File_i_File_string.E) := EOk.of ttOk (trivial)
theorem slices_BinarySearchFunc_SLi_File_i_File_string.fok : FOk Tryz.prog 127 slices_BinarySearchFunc_SLi_File_i_File_string.fi :=
  fokS (E := slices_BinarySearchFunc_SLi_File_i_File_string.E) (wy := ⟨[[none], [none]], [[], [], []], []⟩) (h := (fun gs => let cmp := fnP [.agg [.str, .str, .int .i64], .one (.str)] [.one (.int .i64)] (gN 0 gs); .n (.a) (.n (.a) (.n (.a) (.n (.b (.s (slices_BinarySearchFunc_SLi_File_i_File_string.S1 cmp))) (.a)))))) (G := fun t g => slices_BinarySearchFunc_SLi_File_i_File_string.F (fun y0 y1 => g (y0, y1)) t.1 t.2.1 t.2.2.1) (by kernel_rfl) slices_BinarySearchFunc_SLi_File_i_File_string.hE Tryz.func127 (by kernel_rfl) rfl (Nat.le_refl _) (fun t => HintOk.n1 (by kernel_rfl) (slices_BinarySearchFunc_SLi_File_i_File_string.hok t.2.2.1 slices_BinarySearchFunc_SLi_File_i_File_string.hE)) (fun t g => slices_BinarySearchFunc_SLi_File_i_File_string_nat g t.1 t.2.1 t.2.2.1) (fun t => by kernel_rfl)
/-! strings.Compare -/
theorem cmp_ex : ∃ f : ByteArray → ByteArray → Int, f = (fun a b => Lib.compareBytes a.data.toList b.data.toList) := ⟨_, rfl⟩
/-- Chosen, so that the kernel does not unfold it. -/
noncomputable def cmpS : ByteArray → ByteArray → Int := Classical.choose cmp_ex
theorem cmpS_eq (a b : ByteArray) : cmpS a b = Lib.compareBytes a.data.toList b.data.toList := congrFun (congrFun (Classical.choose_spec cmp_ex) a) b
noncomputable def strings_Compare.F {R : Type} (kk : Int → Option R) (a b : ByteArray) : Option R := kk (cmpS a b)
theorem strings_Compare_ex : ∃ f : ByteArray → ByteArray → Option Int, f = fun a b => strings_Compare.F (fun y0 => some y0) a b := ⟨_, rfl⟩
noncomputable def strings_Compare : ByteArray → ByteArray → Option Int := Classical.choose strings_Compare_ex
theorem strings_Compare_eq (a b : ByteArray) : strings_Compare a b = strings_Compare.F (fun y0 => some y0) a b := congrFun (congrFun (Classical.choose_spec strings_Compare_ex) a) b
def strings_Compare.out : (Int) → CRes := fun a => ⟨encL SV.enc [.one (.int .i64)] (a, ()), [encL SC.enc [] (), encL SC.enc [] ()]⟩
def strings_Compare.ps : List PS := [.val [none], .val [none]]
def strings_Compare.sA : List SA := [.v (.one (.str)), .v (.one (.str))]
noncomputable def strings_Compare.fi : FI := FIs strings_Compare.sA (Int) (fun t => strings_Compare t.1 t.2.1) strings_Compare.out strings_Compare.ps
theorem strings_Compare.fok : FOk Tryz.prog 129 strings_Compare.fi := by
  refine fok_ext ⟨_, _, Tryz.func129, by kernel_rfl, rfl⟩ (by kernel_rfl) (fun a => [.int .i64 a]) (fun a => by kernel_rfl) (fun a => by kernel_rfl) (fun t a h w => ?_)
  obtain ⟨s, c, u⟩ := t
  have h' : some (cmpS s c) = some a := (strings_Compare_eq s c).symm.trans h
  obtain rfl := Option.some.inj h'
  rw [cmpS_eq]
  refine (Any.strings_Compare Tryz.lays106 s c w).mono ?_
  rintro e w' ⟨rfl, rfl⟩
  exact ⟨rfl, RowKit.Below.refl _ _⟩
/-! _loop.example_g00220_impl.Disk_.fileAt$1 -/
def i_Disk_fileAt_1.F {R : Type} (kk : Int → Option R) (f_Name : ByteArray) (f_Data : ByteArray) (f_Sure : Int) (name : ByteArray) : Option R :=
  (strings_Compare f_Name name).bind fun r =>
  kk r
theorem i_Disk_fileAt_1.F_nat {R S : Type} (g : R → Option S) (kk : Int → Option R) (f_Name : ByteArray) (f_Data : ByteArray) (f_Sure : Int) (name : ByteArray) : i_Disk_fileAt_1.F (fun y0 => (kk y0).bind g) f_Name f_Data f_Sure name = (i_Disk_fileAt_1.F kk f_Name f_Data f_Sure name).bind g := by
  simp only [i_Disk_fileAt_1.F, grd_bind, cnd_bind, bnd_bind, non_bind]
def i_Disk_fileAt_1 (f_Name : ByteArray) (f_Data : ByteArray) (f_Sure : Int) (name : ByteArray) : Option Int := i_Disk_fileAt_1.F (fun y0 => some y0) f_Name f_Data f_Sure name
theorem i_Disk_fileAt_1_nat {S : Type} (g : Int → Option S) (f_Name : ByteArray) (f_Data : ByteArray) (f_Sure : Int) (name : ByteArray) : i_Disk_fileAt_1.F (fun y0 => g y0) f_Name f_Data f_Sure name = (i_Disk_fileAt_1 f_Name f_Data f_Sure name).bind g := i_Disk_fileAt_1.F_nat g (fun y0 => some y0) f_Name f_Data f_Sure name
def i_Disk_fileAt_1.out : Int → CRes := fun a => ⟨encL SV.enc [.one (.int .i64)] (a, ()), [encL SC.enc [] (), encL SC.enc [] ()]⟩
def i_Disk_fileAt_1.ps : List PS := [.val [none, none, none], .val [none]]
def i_Disk_fileAt_1.sA : List SA := [.v (.agg [.str, .str, .int .i64]), .v (.one (.str))]
def i_Disk_fileAt_1.fi : FI := FIs i_Disk_fileAt_1.sA (Int) (fun t => i_Disk_fileAt_1 t.1.1 t.1.2.1 t.1.2.2.1 t.2.1) i_Disk_fileAt_1.out i_Disk_fileAt_1.ps
def i_Disk_fileAt_1.E : Env := ⟨tt, lkF [(129, strings_Compare.fi)], 9, 0, [], []⟩
theorem i_Disk_fileAt_1.hok (hE : EOk Tryz.prog (i_Disk_fileAt_1.E)) : HintOk Tryz.prog i_Disk_fileAt_1.E (bodyOf Tryz.f128) (.a) := HintOk.n1 (Q := True) (by kernel_rfl) trivial
theorem i_Disk_fileAt_1.hE : EOk Tryz.prog (i_Disk_fileAt_1.E) := EOk.of ttOk (⟨strings_Compare.fok, trivial⟩)
theorem i_Disk_fileAt_1.fok : FOk Tryz.prog 128 i_Disk_fileAt_1.fi :=
  fokS (E := i_Disk_fileAt_1.E) (wy := ⟨[[none]], [[], []], []⟩) (h := (fun gs => .a)) (G := fun t g => i_Disk_fileAt_1.F (fun y0 => g y0) t.1.1 t.1.2.1 t.1.2.2.1 t.2.1) (by kernel_rfl) i_Disk_fileAt_1.hE Tryz.func128 (by kernel_rfl) rfl (Nat.le_refl _) (fun t => HintOk.n1 (by kernel_rfl) (i_Disk_fileAt_1.hok i_Disk_fileAt_1.hE)) (fun t g => i_Disk_fileAt_1_nat g t.1.1 t.1.2.1 t.1.2.2.1 t.2.1) (fun t => by kernel_rfl)
/-! _loop.example_g00220_impl.Disk_.fileAt -/
def i_Disk_fileAt.F {R : Type} (kk : Int → Bool → Option R) (d_Room : Int) (d_Files : List (El kFile)) (name : ByteArray) : Option R :=
  (slices_BinarySearchFunc_SLi_File_i_File_string d_Files name (fun t => (i_Disk_fileAt_1 t.1.1 t.1.2.1 t.1.2.2.1 t.2.1).bind fun a => some (a, ()))).bind fun r =>
  kk r.1 r.2
theorem i_Disk_fileAt.F_nat {R S : Type} (g : R → Option S) (kk : Int → Bool → Option R) (d_Room : Int) (d_Files : List (El kFile)) (name : ByteArray) : i_Disk_fileAt.F (fun y0 y1 => (kk y0 y1).bind g) d_Room d_Files name = (i_Disk_fileAt.F kk d_Room d_Files name).bind g := by
  simp only [i_Disk_fileAt.F, grd_bind, cnd_bind, bnd_bind, non_bind]
def i_Disk_fileAt (d_Room : Int) (d_Files : List (El kFile)) (name : ByteArray) : Option (Int × Bool) := i_Disk_fileAt.F (fun y0 y1 => some (y0, y1)) d_Room d_Files name
theorem i_Disk_fileAt_nat {S : Type} (g : (Int × Bool) → Option S) (d_Room : Int) (d_Files : List (El kFile)) (name : ByteArray) : i_Disk_fileAt.F (fun y0 y1 => g (y0, y1)) d_Room d_Files name = (i_Disk_fileAt d_Room d_Files name).bind g := i_Disk_fileAt.F_nat g (fun y0 y1 => some (y0, y1)) d_Room d_Files name
def i_Disk_fileAt.out : (Int × Bool) → CRes := fun a => ⟨encL SV.enc [.one (.int .i64), .one (.bool)] (a.1, a.2, ()), [encL SC.enc [] (), encL SC.enc [] ()]⟩
def i_Disk_fileAt.ps : List PS := [.val [none, some (kFile, false)], .val [none]]
def i_Disk_fileAt.sA : List SA := [.v (.agg [.int .i64, .slv [] kFile]), .v (.one (.str))]
def i_Disk_fileAt.fi : FI := FIs i_Disk_fileAt.sA (Int × Bool) (fun t => i_Disk_fileAt t.1.1 t.1.2.1 t.2.1) i_Disk_fileAt.out i_Disk_fileAt.ps
def i_Disk_fileAt.E : Env := ⟨tt, lkF [(127, slices_BinarySearchFunc_SLi_File_i_File_string.fi), (128, i_Disk_fileAt_1.fi)], 12, 0, [], []⟩
theorem i_Disk_fileAt.hok (hE : EOk Tryz.prog (i_Disk_fileAt.E)) : HintOk Tryz.prog i_Disk_fileAt.E (bodyOf Tryz.f76) (.a) := HintOk.n1 (Q := True) (by kernel_rfl) trivial
theorem i_Disk_fileAt.hE : EOk Tryz.prog (i_Disk_fileAt.E) := EOk.of ttOk (⟨slices_BinarySearchFunc_SLi_File_i_File_string.fok, ⟨i_Disk_fileAt_1.fok, trivial⟩⟩)
theorem i_Disk_fileAt.fok : FOk Tryz.prog 76 i_Disk_fileAt.fi :=
  fokS (E := i_Disk_fileAt.E) (wy := ⟨[[none], [none]], [[], []], []⟩) (h := (fun gs => .a)) (G := fun t g => i_Disk_fileAt.F (fun y0 y1 => g (y0, y1)) t.1.1 t.1.2.1 t.2.1) (by kernel_rfl) i_Disk_fileAt.hE Tryz.func76 (by kernel_rfl) rfl (Nat.le_refl _) (fun t => HintOk.n1 (by kernel_rfl) (i_Disk_fileAt.hok i_Disk_fileAt.hE)) (fun t g => i_Disk_fileAt_nat g t.1.1 t.1.2.1 t.2.1) (fun t => by kernel_rfl)
/-! _loop.example_g00220_impl.Disk_.firstNumber -/
def i_Disk_firstNumber.F {R : Type} (kk : Int → Bool → Option R) (d_Room : Int) (d_Files : List (El kFile)) (name : ByteArray) : Option R :=
  (i_Disk_fileAt d_Room d_Files name).bind fun r =>
  grd (gIx r.1 (List.length d_Files)) <|
  (i_readFrames ((rdE kFile d_Files (Int.toNat r.1)).2.1)).bind fun r1 =>
  cond ((List.length r1.1 : Int) == (0 : Int)) (kk (0 : Int) false) (
    grd (gIx (0 : Int) (List.length r1.1)) <|
    (i_numberOf (rdE (.str : Kd) r1.1 (Int.toNat (0 : Int)))).bind fun r2 =>
    kk r2 true)
theorem i_Disk_firstNumber.F_nat {R S : Type} (g : R → Option S) (kk : Int → Bool → Option R) (d_Room : Int) (d_Files : List (El kFile)) (name : ByteArray) : i_Disk_firstNumber.F (fun y0 y1 => (kk y0 y1).bind g) d_Room d_Files name = (i_Disk_firstNumber.F kk d_Room d_Files name).bind g := by
  simp only [i_Disk_firstNumber.F, grd_bind, cnd_bind, bnd_bind, non_bind]
def i_Disk_firstNumber (d_Room : Int) (d_Files : List (El kFile)) (name : ByteArray) : Option (Int × Bool) := i_Disk_firstNumber.F (fun y0 y1 => some (y0, y1)) d_Room d_Files name
theorem i_Disk_firstNumber_nat {S : Type} (g : (Int × Bool) → Option S) (d_Room : Int) (d_Files : List (El kFile)) (name : ByteArray) : i_Disk_firstNumber.F (fun y0 y1 => g (y0, y1)) d_Room d_Files name = (i_Disk_firstNumber d_Room d_Files name).bind g := i_Disk_firstNumber.F_nat g (fun y0 y1 => some (y0, y1)) d_Room d_Files name
def i_Disk_firstNumber.out : (Int × Bool) → CRes := fun a => ⟨encL SV.enc [.one (.int .i64), .one (.bool)] (a.1, a.2, ()), [encL SC.enc [] (), encL SC.enc [] ()]⟩
def i_Disk_firstNumber.ps : List PS := [.val [none, some (kFile, false)], .val [none]]
def i_Disk_firstNumber.sA : List SA := [.v (.agg [.int .i64, .slv [] kFile]), .v (.one (.str))]
def i_Disk_firstNumber.fi : FI := FIs i_Disk_firstNumber.sA (Int × Bool) (fun t => i_Disk_firstNumber t.1.1 t.1.2.1 t.2.1) i_Disk_firstNumber.out i_Disk_firstNumber.ps
def i_Disk_firstNumber.E : Env := ⟨tt, lkF [(76, i_Disk_fileAt.fi), (102, i_readFrames.fi), (103, i_numberOf.fi)], 35, 0, [], []⟩
theorem i_Disk_firstNumber.hok (hE : EOk Tryz.prog (i_Disk_firstNumber.E)) : HintOk Tryz.prog i_Disk_firstNumber.E (bodyOf Tryz.f54) (.a) := HintOk.n1 (Q := True) (by kernel_rfl) trivial
theorem i_Disk_firstNumber.hE : EOk Tryz.prog (i_Disk_firstNumber.E) := EOk.of ttOk (⟨i_Disk_fileAt.fok, ⟨i_readFrames.fok, ⟨i_numberOf.fok, trivial⟩⟩⟩)
theorem i_Disk_firstNumber.fok : FOk Tryz.prog 54 i_Disk_firstNumber.fi :=
  fokS (E := i_Disk_firstNumber.E) (wy := ⟨[[none], [none]], [[], []], []⟩) (h := (fun gs => .a)) (G := fun t g => i_Disk_firstNumber.F (fun y0 y1 => g (y0, y1)) t.1.1 t.1.2.1 t.2.1) (by kernel_rfl) i_Disk_firstNumber.hE Tryz.func54 (by kernel_rfl) rfl (Nat.le_refl _) (fun t => HintOk.n1 (by kernel_rfl) (i_Disk_firstNumber.hok i_Disk_firstNumber.hE)) (fun t g => i_Disk_firstNumber_nat g t.1.1 t.1.2.1 t.2.1) (fun t => by kernel_rfl)
/-! slices.Insert___loop.example_g00220_impl.File_loop.example_g00220_impl.File_ -/

/-! __loop.example_g00220_impl.Disk_.append -/
def i_Disk_append.j1 {R : Type} (kkn : ByteArray → ByteArray → Int → Bool → Bool → Int → List (El kFile) → Option R) (name : ByteArray) (data : ByteArray) (k_ : Int) (found : Bool) (d : Int) (l : List (El kFile)) : Option R :=
  cond (!found) (
    cond ((List.length l : Int) == (8 : Int)) (kkn name data k_ found true d l) (
      (i_Disk_used d l).bind fun r =>
      kkn name data k_ found (decide ((ByteArray.size data : Int) > (IntKind.wrap .i64 (d - r)))) d l)) (
    (i_Disk_used d l).bind fun r1 =>
    kkn name data k_ found (decide ((ByteArray.size data : Int) > (IntKind.wrap .i64 (d - r1)))) d l)
theorem i_Disk_append.j1_nat {R S : Type} (g : R → Option S) (kkn : ByteArray → ByteArray → Int → Bool → Bool → Int → List (El kFile) → Option R) (name : ByteArray) (data : ByteArray) (k_ : Int) (found : Bool) (d : Int) (l : List (El kFile)) : i_Disk_append.j1 (fun y0 y1 y2 y3 y4 y5 y6 => (kkn y0 y1 y2 y3 y4 y5 y6).bind g) name data k_ found d l = (i_Disk_append.j1 kkn name data k_ found d l).bind g := by
  simp only [i_Disk_append.j1, grd_bind, cnd_bind, bnd_bind, non_bind]
def i_Disk_append.j2 {R : Type} (kkn : ByteArray → Int → Int → List (El kFile) → Option R) (kkr : Int → Int → List (El kFile) → Option R) (name : ByteArray) (data : ByteArray) (k_ : Int) (found : Bool) (d : Int) (l : List (El kFile)) : Option R :=
  (i_NameOK name).bind fun r =>
  cond (!r) (kkr (1 : Int) d l) (
    i_Disk_append.j1 (fun name1 data1 k_1 found1 b d1 l1 =>
      cond (b) (kkr (7 : Int) d1 l1) (
        cond (!found1) (
          (slices_Insert_SLi_File_i_File l1 k_1 [(name1, (ByteArray.empty, (0 : Int)))]).bind fun r1 =>
          kkn data1 k_1 d1 r1) (kkn data1 k_1 d1 l1))) name data k_ found d l)
theorem i_Disk_append.j2_nat {R S : Type} (g : R → Option S) (kkn : ByteArray → Int → Int → List (El kFile) → Option R) (kkr : Int → Int → List (El kFile) → Option R) (name : ByteArray) (data : ByteArray) (k_ : Int) (found : Bool) (d : Int) (l : List (El kFile)) : i_Disk_append.j2 (fun y0 y1 y2 y3 => (kkn y0 y1 y2 y3).bind g) (fun y0 y1 y2 => (kkr y0 y1 y2).bind g) name data k_ found d l = (i_Disk_append.j2 kkn kkr name data k_ found d l).bind g := by
  simp only [i_Disk_append.j2, grd_bind, cnd_bind, bnd_bind, non_bind, ← i_Disk_append.j1_nat]
def i_Disk_append.F {R : Type} (kk : Int → Int → List (El kFile) → Option R) (d_Room : Int) (d_Files : List (El kFile)) (name : ByteArray) (data : ByteArray) : Option R :=
  (i_Disk_fileAt d_Room d_Files name).bind fun r =>
  i_Disk_append.j2 (fun data1 k_ d l =>
    grd (gIx k_ (List.length l)) <|
    grd (gCat (rdE kFile l (Int.toNat k_)).2.1 data1) <|
    grd (gIx k_ (List.length l)) <|
    kk (0 : Int) d (setE kFile l (Int.toNat k_) ((rdE kFile l (Int.toNat k_)).1, ((rdE kFile l (Int.toNat k_)).2.1 ++ data1, (rdE kFile l (Int.toNat k_)).2.2)))) (fun i d1 l1 => kk i d1 l1) name data r.1 r.2 d_Room d_Files
theorem i_Disk_append.F_nat {R S : Type} (g : R → Option S) (kk : Int → Int → List (El kFile) → Option R) (d_Room : Int) (d_Files : List (El kFile)) (name : ByteArray) (data : ByteArray) : i_Disk_append.F (fun y0 y1 y2 => (kk y0 y1 y2).bind g) d_Room d_Files name data = (i_Disk_append.F kk d_Room d_Files name data).bind g := by
  simp only [i_Disk_append.F, grd_bind, cnd_bind, bnd_bind, non_bind, ← i_Disk_append.j2_nat]
def i_Disk_append (d_Room : Int) (d_Files : List (El kFile)) (name : ByteArray) (data : ByteArray) : Option (Int × Int × List (El kFile)) := i_Disk_append.F (fun y0 y1 y2 => some (y0, y1, y2)) d_Room d_Files name data
theorem i_Disk_append_nat {S : Type} (g : (Int × Int × List (El kFile)) → Option S) (d_Room : Int) (d_Files : List (El kFile)) (name : ByteArray) (data : ByteArray) : i_Disk_append.F (fun y0 y1 y2 => g (y0, y1, y2)) d_Room d_Files name data = (i_Disk_append d_Room d_Files name data).bind g := i_Disk_append.F_nat g (fun y0 y1 y2 => some (y0, y1, y2)) d_Room d_Files name data
def i_Disk_append.out : (Int × Int × List (El kFile)) → CRes := fun a => ⟨encL SV.enc [.one (.int .i64)] (a.1, ()), [encL SC.enc [.int .i64, .own [] kFile true] (a.2.1, a.2.2, ()), encL SC.enc [] (), encL SC.enc [] ()]⟩
def i_Disk_append.ps : List PS := [.ptr [none, some (kFile, true)], .val [none], .val [none]]
def i_Disk_append.sA : List SA := [.ptr [.int .i64, .own [] kFile true], .v (.one (.str)), .v (.one (.str))]
def i_Disk_append.fi : FI := FIs i_Disk_append.sA (Int × Int × List (El kFile)) (fun t => i_Disk_append t.1.1 t.1.2.1 t.2.1 t.2.2.1) i_Disk_append.out i_Disk_append.ps
def i_Disk_append.E : Env := ⟨tt, lkF [(76, i_Disk_fileAt.fi), (113, i_Disk_used.fi), (114, i_NameOK.fi), (149, slices_Insert_SLi_File_i_File.fi)], 73, 1, [], []⟩
def i_Disk_append.sh1 : SK := ⟨[.v (.one (.bptr 0 0)), .v (.one (.str)), .v (.one (.str)), .v (.one (.int .i64)), .v (.one (.bool))], [.box [.int .i64, .slo 1], .arr kFile [] true]⟩
def i_Disk_append.sh1n : SK := ⟨[.v (.one (.bptr 0 0)), .v (.one (.str)), .v (.one (.str)), .v (.one (.int .i64)), .v (.one (.bool)), .v (.one (.bool))], [.box [.int .i64, .slo 1], .arr kFile [] true]⟩
def i_Disk_append.ko1 : Ex → List CastAt × List Nat
  | .nrm => ([], [0, 1, 2, 7, 8, 21])
  | .ret => ([], [])
  | .ext i => ([], [])
def i_Disk_append.G1 (R : Type) (t : i_Disk_append.sh1.T) (K : Ex → Kp → Option R) : Option R := i_Disk_append.j1 (fun y0 y1 y2 y3 y4 y5 y6 => K .nrm (SK.enc i_Disk_append.sh1n (((), y0, y1, y2, y3, y4, ()), ((y5, (), ()), y6, ())))) t.1.2.1 t.1.2.2.1 t.1.2.2.2.1 t.1.2.2.2.2.1 t.2.1.1 t.2.2.1
def i_Disk_append.S1 : Sum := ⟨([], [0, 1, 2, 7, 8]), sumF i_Disk_append.sh1 (i_Disk_append.G1), i_Disk_append.ko1⟩
theorem i_Disk_append.ok1 (hE : EOk Tryz.prog (i_Disk_append.E)) : SumOk Tryz.prog i_Disk_append.E (cL (cR (cR (cB (cL (cR (cR (bodyOf Tryz.f104)))))))) (i_Disk_append.S1) := by
  have hh : HintOk Tryz.prog i_Disk_append.E (cL (cR (cR (cB (cL (cR (cR (bodyOf Tryz.f104)))))))) (.a) := HintOk.n1 (Q := True) (by kernel_rfl) trivial
  exact sumS (kin := ([], [0, 1, 2, 7, 8])) (kout := i_Disk_append.ko1) (sh := i_Disk_append.sh1) (F := i_Disk_append.G1) (ops_ok (hE.gv _)) (by kernel_rfl) hh (fun R t K => by kernel_rfl)
def i_Disk_append.sh2 : SK := ⟨[.v (.one (.bptr 0 0)), .v (.one (.str)), .v (.one (.str)), .v (.one (.int .i64)), .v (.one (.bool))], [.box [.int .i64, .slo 1], .arr kFile [] true]⟩
def i_Disk_append.sh2n : SK := ⟨[.v (.one (.bptr 0 0)), .v (.one (.str)), .v (.one (.int .i64))], [.box [.int .i64, .slo 1], .arr kFile [] true]⟩
def i_Disk_append.sh2r : SK := ⟨[.v (.one (.bptr 0 0)), .v (.one (.int .i64))], [.box [.int .i64, .slo 1], .arr kFile [] true]⟩
def i_Disk_append.ko2 : Ex → List CastAt × List Nat
  | .nrm => ([], [0, 2, 7])
  | .ret => ([], [0, 6])
  | .ext i => ([], [])
def i_Disk_append.G2 (R : Type) (t : i_Disk_append.sh2.T) (K : Ex → Kp → Option R) : Option R := i_Disk_append.j2 (fun y0 y1 y2 y3 => K .nrm (SK.enc i_Disk_append.sh2n (((), y0, y1, ()), ((y2, (), ()), y3, ())))) (fun y0 y1 y2 => K .ret (SK.enc i_Disk_append.sh2r (((), y0, ()), ((y1, (), ()), y2, ())))) t.1.2.1 t.1.2.2.1 t.1.2.2.2.1 t.1.2.2.2.2.1 t.2.1.1 t.2.2.1
def i_Disk_append.S2 : Sum := ⟨([], [0, 1, 2, 7, 8]), sumF i_Disk_append.sh2 (i_Disk_append.G2), i_Disk_append.ko2⟩
theorem i_Disk_append.ok2 (hE : EOk Tryz.prog (i_Disk_append.E)) : SumOk Tryz.prog i_Disk_append.E (cL (cR (cR (bodyOf Tryz.f104)))) (i_Disk_append.S2) := by
  have hh : HintOk Tryz.prog i_Disk_append.E (cL (cR (cR (bodyOf Tryz.f104)))) (.b (.n (.a) (.n (.a) (.n (.s (i_Disk_append.S1)) (.a))))) := HintOk.n1 (Q := (True) ∧ ((True) ∧ ((SumOk Tryz.prog i_Disk_append.E (cL (cR (cR (cB (cL (cR (cR (bodyOf Tryz.f104)))))))) (i_Disk_append.S1)) ∧ (True)))) (by kernel_rfl) ⟨trivial, ⟨trivial, ⟨(i_Disk_append.ok1 hE), trivial⟩⟩⟩
  exact sumS (kin := ([], [0, 1, 2, 7, 8])) (kout := i_Disk_append.ko2) (sh := i_Disk_append.sh2) (F := i_Disk_append.G2) (ops_ok (hE.gv _)) (by kernel_rfl) hh (fun R t K => by kernel_rfl)
theorem i_Disk_append.hok (hE : EOk Tryz.prog (i_Disk_append.E)) : HintOk Tryz.prog i_Disk_append.E (bodyOf Tryz.f104) (.n (.a) (.n (.a) (.n (.s (i_Disk_append.S2)) (.a)))) := HintOk.n1 (Q := (True) ∧ ((True) ∧ ((SumOk Tryz.prog i_Disk_append.E (cL (cR (cR (bodyOf Tryz.f104)))) (i_Disk_append.S2)) ∧ (True)))) (by kernel_rfl) ⟨trivial, ⟨trivial, ⟨(i_Disk_append.ok2 hE), trivial⟩⟩⟩
theorem i_Disk_append.hE : EOk Tryz.prog (i_Disk_append.E) := EOk.of ttOk (⟨i_Disk_fileAt.fok, ⟨i_Disk_used.fok, ⟨i_NameOK.fok, ⟨slices_Insert_SLi_File_i_File.fok, trivial⟩⟩⟩⟩)
theorem i_Disk_append.fok : FOk Tryz.prog 104 i_Disk_append.fi :=
  fokS (E := i_Disk_append.E) (wy := ⟨[[none]], [[none, some (kFile, true)], [], []], []⟩) (h := (fun gs => .n (.a) (.n (.a) (.n (.s (i_Disk_append.S2)) (.a))))) (G := fun t g => i_Disk_append.F (fun y0 y1 y2 => g (y0, y1, y2)) t.1.1 t.1.2.1 t.2.1 t.2.2.1) (by kernel_rfl) i_Disk_append.hE Tryz.func104 (by kernel_rfl) rfl (Nat.le_refl _) (fun t => HintOk.n1 (by kernel_rfl) (i_Disk_append.hok i_Disk_append.hE)) (fun t g => i_Disk_append_nat g t.1.1 t.1.2.1 t.2.1 t.2.2.1) (fun t => by kernel_rfl)
/-! __loop.example_g00220_impl.Disk_.crash -/
def i_Disk_crash.j1 {R : Type} (kkn : List Int → Nat → Int → Int → Int → Int → List (El kFile) → Option R) (keep : List Int) (i : Int) (f : Nat) (more : Int) (i1 : Int) (i2 : Int) (d : Int) (f1 : List (El kFile)) : Option R :=
  cond (decide (i < (List.length keep : Int))) (
    grd (gIx i (List.length keep)) <|
    kkn keep f (mx2 (0 : Int) (mn2 (rdE (.int .i64 : Kd) keep (Int.toNat i)) (IntKind.wrap .i64 ((ByteArray.size (rdE kFile f1 f).2.1 : Int) - (rdE kFile f1 f).2.2)))) i1 i2 d f1) (kkn keep f more i1 i2 d f1)
theorem i_Disk_crash.j1_nat {R S : Type} (g : R → Option S) (kkn : List Int → Nat → Int → Int → Int → Int → List (El kFile) → Option R) (keep : List Int) (i : Int) (f : Nat) (more : Int) (i1 : Int) (i2 : Int) (d : Int) (f1 : List (El kFile)) : i_Disk_crash.j1 (fun y0 y1 y2 y3 y4 y5 y6 => (kkn y0 y1 y2 y3 y4 y5 y6).bind g) keep i f more i1 i2 d f1 = (i_Disk_crash.j1 kkn keep i f more i1 i2 d f1).bind g := by
  simp only [i_Disk_crash.j1, grd_bind, cnd_bind, bnd_bind, non_bind]
def i_Disk_crash.l2 {R : Type} (kke0 : Int → List (El kFile) → Option R) : Nat → List Int → Int → Int → Int → List (El kFile) → Option R
  | 0, _, _, _, _, _ => none
  | n + 1, keep, i, i1, d, l =>
    cond (decide (i1 < i)) (
      grd (gIx i1 (List.length l)) <|
      i_Disk_crash.j1 (fun keep1 f more i2 i3 d1 f1 =>
        grd (gSl (0 : Int) (IntKind.wrap .i64 ((rdE kFile f1 f).2.2 + more)) (ByteArray.size (rdE kFile f1 f).2.1)) <|
        i_Disk_crash.l2 kke0 n keep1 i2 (IntKind.wrap .i64 (i3 + (1 : Int))) d1 (setE kFile (setE kFile f1 f ((rdE kFile f1 f).1, (cut (rdE kFile f1 f).2.1 (0 : Int) (IntKind.wrap .i64 ((rdE kFile f1 f).2.2 + more)), (rdE kFile f1 f).2.2))) f ((rdE kFile (setE kFile f1 f ((rdE kFile f1 f).1, (cut (rdE kFile f1 f).2.1 (0 : Int) (IntKind.wrap .i64 ((rdE kFile f1 f).2.2 + more)), (rdE kFile f1 f).2.2))) f).1, ((rdE kFile (setE kFile f1 f ((rdE kFile f1 f).1, (cut (rdE kFile f1 f).2.1 (0 : Int) (IntKind.wrap .i64 ((rdE kFile f1 f).2.2 + more)), (rdE kFile f1 f).2.2))) f).2.1, (ByteArray.size (rdE kFile (setE kFile f1 f ((rdE kFile f1 f).1, (cut (rdE kFile f1 f).2.1 (0 : Int) (IntKind.wrap .i64 ((rdE kFile f1 f).2.2 + more)), (rdE kFile f1 f).2.2))) f).2.1 : Int))))) keep i1 (Int.toNat i1) (0 : Int) i i1 d l) (kke0 d l)
theorem i_Disk_crash.l2_nat {R S : Type} (g : R → Option S) (kke0 : Int → List (El kFile) → Option R) : ∀ (n : Nat) (keep : List Int) (i : Int) (i1 : Int) (d : Int) (l : List (El kFile)), i_Disk_crash.l2 (fun y0 y1 => (kke0 y0 y1).bind g) n keep i i1 d l = (i_Disk_crash.l2 kke0 n keep i i1 d l).bind g := by
  intro n
  induction n with
  | zero => intros; rfl
  | succ n ih => intros; simp only [i_Disk_crash.l2, grd_bind, cnd_bind, bnd_bind, non_bind, ← i_Disk_crash.j1_nat, ih]
def i_Disk_crash.F {R : Type} (kk : Int → List (El kFile) → Option R) (d_Room : Int) (d_Files : List (El kFile)) (keep : List Int) : Option R :=
  i_Disk_crash.l2 (fun d l => kk d l) fuel keep (List.length d_Files : Int) (0 : Int) d_Room d_Files
theorem i_Disk_crash.F_nat {R S : Type} (g : R → Option S) (kk : Int → List (El kFile) → Option R) (d_Room : Int) (d_Files : List (El kFile)) (keep : List Int) : i_Disk_crash.F (fun y0 y1 => (kk y0 y1).bind g) d_Room d_Files keep = (i_Disk_crash.F kk d_Room d_Files keep).bind g := by
  simp only [i_Disk_crash.F, grd_bind, cnd_bind, bnd_bind, non_bind, ← i_Disk_crash.l2_nat]
def i_Disk_crash (d_Room : Int) (d_Files : List (El kFile)) (keep : List Int) : Option (Int × List (El kFile)) := i_Disk_crash.F (fun y0 y1 => some (y0, y1)) d_Room d_Files keep
theorem i_Disk_crash_nat {S : Type} (g : (Int × List (El kFile)) → Option S) (d_Room : Int) (d_Files : List (El kFile)) (keep : List Int) : i_Disk_crash.F (fun y0 y1 => g (y0, y1)) d_Room d_Files keep = (i_Disk_crash d_Room d_Files keep).bind g := i_Disk_crash.F_nat g (fun y0 y1 => some (y0, y1)) d_Room d_Files keep
def i_Disk_crash.out : (Int × List (El kFile)) → CRes := fun a => ⟨encL SV.enc [] (), [encL SC.enc [.int .i64, .own [] kFile true] (a.1, a.2, ()), encL SC.enc [] ()]⟩
def i_Disk_crash.ps : List PS := [.ptr [none, some (kFile, true)], .val [some ((.int .i64), false)]]
def i_Disk_crash.sA : List SA := [.ptr [.int .i64, .own [] kFile true], .v (.one (.slv [] (.int .i64)))]
def i_Disk_crash.fi : FI := FIs i_Disk_crash.sA (Int × List (El kFile)) (fun t => i_Disk_crash t.1.1 t.1.2.1 t.2.1) i_Disk_crash.out i_Disk_crash.ps
def i_Disk_crash.E : Env := ⟨tt, lkF [], 64, 1, [], []⟩
def i_Disk_crash.sh1 : SK := ⟨[.v (.one (.bptr 0 0)), .v (.one (.slv [2] (.int .i64))), .v (.one (.int .i64)), .v (.one (.eptr 1 3 0)), .v (.one (.int .i64)), .v (.one (.int .i64)), .v (.one (.int .i64))], [.box [.int .i64, .slo 1], .arr kFile [] true]⟩
def i_Disk_crash.sh1n : SK := ⟨[.v (.one (.bptr 0 0)), .v (.one (.slv [2] (.int .i64))), .v (.one (.eptr 1 3 0)), .v (.one (.int .i64)), .v (.one (.int .i64)), .v (.one (.int .i64))], [.box [.int .i64, .slo 1], .arr kFile [] true]⟩
def i_Disk_crash.ko1 : Ex → List CastAt × List Nat
  | .nrm => ([], [0, 1, 5, 6, 11, 12])
  | .ret => ([], [])
  | .ext i => ([], [])
def i_Disk_crash.G1 (R : Type) (t : i_Disk_crash.sh1.T) (K : Ex → Kp → Option R) : Option R := i_Disk_crash.j1 (fun y0 y1 y2 y3 y4 y5 y6 => K .nrm (SK.enc i_Disk_crash.sh1n (((), y0, y1, y2, y3, y4, ()), ((y5, (), ()), y6, ())))) t.1.2.1 t.1.2.2.1 t.1.2.2.2.1 t.1.2.2.2.2.1 t.1.2.2.2.2.2.1 t.1.2.2.2.2.2.2.1 t.2.1.1 t.2.2.1
def i_Disk_crash.S1 : Sum := ⟨([], [0, 1, 4, 5, 6, 11, 12]), sumF i_Disk_crash.sh1 (i_Disk_crash.G1), i_Disk_crash.ko1⟩
theorem i_Disk_crash.ok1 (hE : EOk Tryz.prog (i_Disk_crash.E)) : SumOk Tryz.prog i_Disk_crash.E (cL (cR (cR (cB (cL (cR (cR (cB (cB (cR (bodyOf Tryz.f105))))))))))) (i_Disk_crash.S1) := by
  have hh : HintOk Tryz.prog i_Disk_crash.E (cL (cR (cR (cB (cL (cR (cR (cB (cB (cR (bodyOf Tryz.f105))))))))))) (.a) := HintOk.n1 (Q := True) (by kernel_rfl) trivial
  exact sumS (kin := ([], [0, 1, 4, 5, 6, 11, 12])) (kout := i_Disk_crash.ko1) (sh := i_Disk_crash.sh1) (F := i_Disk_crash.G1) (ops_ok (hE.gv _)) (by kernel_rfl) hh (fun R t K => by kernel_rfl)
def i_Disk_crash.sh2 : SK := ⟨[.v (.one (.bptr 0 0)), .v (.one (.slv [2] (.int .i64))), .v (.one (.int .i64)), .v (.one (.int .i64))], [.box [.int .i64, .slo 1], .arr kFile [] true]⟩
def i_Disk_crash.sh2e0 : SK := ⟨[.v (.one (.bptr 0 0))], [.box [.int .i64, .slo 1], .arr kFile [] true]⟩
def i_Disk_crash.ko2 : Ex → List CastAt × List Nat
  | .nrm => ([], [])
  | .ret => ([], [])
  | .ext i => cond (Nat.beq i 0) ([], [0]) ([], [])
def i_Disk_crash.G2 (n : Nat) (R : Type) (t : i_Disk_crash.sh2.T) (K : Ex → Kp → Option R) : Option R := i_Disk_crash.l2 (fun y0 y1 => K (.ext 0) (SK.enc i_Disk_crash.sh2e0 (((), ()), ((y0, (), ()), y1, ())))) n t.1.2.1 t.1.2.2.1 t.1.2.2.2.1 t.2.1.1 t.2.2.1
def i_Disk_crash.S2 : Sum := ⟨([], [0, 1, 11, 12]), sumF i_Disk_crash.sh2 (i_Disk_crash.G2 fuel), i_Disk_crash.ko2⟩
theorem i_Disk_crash.ok2 (hE : EOk Tryz.prog (i_Disk_crash.E)) : SumOk Tryz.prog i_Disk_crash.E (cB (cR (bodyOf Tryz.f105))) (i_Disk_crash.S2) := by
  have hh : HintOk Tryz.prog i_Disk_crash.E (cB (cB (cR (bodyOf Tryz.f105)))) (.n (.a) (.n (.a) (.n (.b (.n (.a) (.n (.a) (.n (.s (i_Disk_crash.S1)) (.a))))) (.a)))) := HintOk.n1 (Q := (True) ∧ ((True) ∧ (((True) ∧ ((True) ∧ ((SumOk Tryz.prog i_Disk_crash.E (cL (cR (cR (cB (cL (cR (cR (cB (cB (cR (bodyOf Tryz.f105))))))))))) (i_Disk_crash.S1)) ∧ (True)))) ∧ (True)))) (by kernel_rfl) ⟨trivial, ⟨trivial, ⟨⟨trivial, ⟨trivial, ⟨(i_Disk_crash.ok1 hE), trivial⟩⟩⟩, trivial⟩⟩⟩
  have h := loopS (kin := ([], [0, 1, 11, 12])) (kout := i_Disk_crash.ko2) (sh := i_Disk_crash.sh2) (F := i_Disk_crash.G2) (ops_ok (hE.gv _)) (by kernel_rfl) hh (fun _ _ _ => rfl) (fun n R t K => by kernel_rfl) fuel
  exact HintOk.n1 (c := (cB (cR (bodyOf Tryz.f105)))) (h := .s (i_Disk_crash.S2)) (P := Tryz.prog) (E := i_Disk_crash.E) (by kernel_rfl) h
theorem i_Disk_crash.hok (hE : EOk Tryz.prog (i_Disk_crash.E)) : HintOk Tryz.prog i_Disk_crash.E (bodyOf Tryz.f105) (.n (.a) (.b (.s (i_Disk_crash.S2)))) := HintOk.n1 (Q := (True) ∧ (SumOk Tryz.prog i_Disk_crash.E (cB (cR (bodyOf Tryz.f105))) (i_Disk_crash.S2))) (by kernel_rfl) ⟨trivial, (i_Disk_crash.ok2 hE)⟩
theorem i_Disk_crash.hE : EOk Tryz.prog (i_Disk_crash.E) := EOk.of ttOk (trivial)
theorem i_Disk_crash.fok : FOk Tryz.prog 105 i_Disk_crash.fi :=
  fokS (E := i_Disk_crash.E) (wy := ⟨[], [[none, some (kFile, true)], []], []⟩) (h := (fun gs => .n (.a) (.b (.s (i_Disk_crash.S2))))) (G := fun t g => i_Disk_crash.F (fun y0 y1 => g (y0, y1)) t.1.1 t.1.2.1 t.2.1) (by kernel_rfl) i_Disk_crash.hE Tryz.func105 (by kernel_rfl) rfl (Nat.le_refl _) (fun t => HintOk.n1 (by kernel_rfl) (i_Disk_crash.hok i_Disk_crash.hE)) (fun t g => i_Disk_crash_nat g t.1.1 t.1.2.1 t.2.1) (fun t => by kernel_rfl)
/-! slices.Delete___loop.example_g00220_impl.File_loop.example_g00220_impl.File_ -/

end
end Go.Proofs.YtaanadbpnmcbcaaGreatDoorA
