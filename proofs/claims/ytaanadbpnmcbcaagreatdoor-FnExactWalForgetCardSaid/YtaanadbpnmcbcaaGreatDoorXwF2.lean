/-
  Functions of the program, and that the small machine's runs are these. No condition.
  Printed by wip/amp/main.py (a session's own program) out of Lean's print of the program; Lean's kernel checks it.
-/
import Derived.Test.YtaanadbpnmcbcaaGreatDoorXwF1
namespace Go.Proofs.YtaanadbpnmcbcaaGreatDoorA
open Go
noncomputable section
set_option linter.unusedVariables false
set_option linter.unusedSimpArgs false
set_option maxRecDepth 100000

/-! __loop.example_g00220_impl.Disk_.rename -/
def i_Disk_rename.F {R : Type} (kk : Int → Int → List (El kFile) → Option R) (d_Room : Int) (d_Files : List (El kFile)) (k_ : Int) (to_ : ByteArray) : Option R :=
  (i_NameOK to_).bind fun r =>
  cond (!r) (kk (1 : Int) d_Room d_Files) (
    grd (gIx k_ (List.length d_Files)) <|
    (slices_Delete_SLi_File_i_File d_Files k_ (IntKind.wrap .i64 (k_ + (1 : Int)))).bind fun r1 =>
    (i_Disk_fileAt d_Room r1 to_).bind fun r2 =>
    cond (r2.2) (
      grd (gIx r2.1 (List.length r1)) <|
      kk (0 : Int) d_Room (setE kFile r1 (Int.toNat r2.1) (to_, (rdE kFile d_Files (Int.toNat k_)).2))) (
      (slices_Insert_SLi_File_i_File r1 r2.1 [(to_, (rdE kFile d_Files (Int.toNat k_)).2)]).bind fun r3 =>
      kk (0 : Int) d_Room r3))
theorem i_Disk_rename.F_nat {R S : Type} (g : R → Option S) (kk : Int → Int → List (El kFile) → Option R) (d_Room : Int) (d_Files : List (El kFile)) (k_ : Int) (to_ : ByteArray) : i_Disk_rename.F (fun y0 y1 y2 => (kk y0 y1 y2).bind g) d_Room d_Files k_ to_ = (i_Disk_rename.F kk d_Room d_Files k_ to_).bind g := by
  simp only [i_Disk_rename.F, grd_bind, cnd_bind, bnd_bind, non_bind]
def i_Disk_rename (d_Room : Int) (d_Files : List (El kFile)) (k_ : Int) (to_ : ByteArray) : Option (Int × Int × List (El kFile)) := i_Disk_rename.F (fun y0 y1 y2 => some (y0, y1, y2)) d_Room d_Files k_ to_
theorem i_Disk_rename_nat {S : Type} (g : (Int × Int × List (El kFile)) → Option S) (d_Room : Int) (d_Files : List (El kFile)) (k_ : Int) (to_ : ByteArray) : i_Disk_rename.F (fun y0 y1 y2 => g (y0, y1, y2)) d_Room d_Files k_ to_ = (i_Disk_rename d_Room d_Files k_ to_).bind g := i_Disk_rename.F_nat g (fun y0 y1 y2 => some (y0, y1, y2)) d_Room d_Files k_ to_
def i_Disk_rename.out : (Int × Int × List (El kFile)) → CRes := fun a => ⟨encL SV.enc [.one (.int .i64)] (a.1, ()), [encL SC.enc [.int .i64, .own [] kFile true] (a.2.1, a.2.2, ()), encL SC.enc [] (), encL SC.enc [] ()]⟩
def i_Disk_rename.ps : List PS := [.ptr [none, some (kFile, true)], .val [none], .val [none]]
def i_Disk_rename.sA : List SA := [.ptr [.int .i64, .own [] kFile true], .v (.one (.int .i64)), .v (.one (.str))]
def i_Disk_rename.fi : FI := FIs i_Disk_rename.sA (Int × Int × List (El kFile)) (fun t => i_Disk_rename t.1.1 t.1.2.1 t.2.1 t.2.2.1) i_Disk_rename.out i_Disk_rename.ps
def i_Disk_rename.E : Env := ⟨tt, lkF [(76, i_Disk_fileAt.fi), (107, slices_Delete_SLi_File_i_File.fi), (114, i_NameOK.fi), (149, slices_Insert_SLi_File_i_File.fi)], 60, 1, [], []⟩
theorem i_Disk_rename.hok (hE : EOk Tryz.prog (i_Disk_rename.E)) : HintOk Tryz.prog i_Disk_rename.E (bodyOf Tryz.f106) (.a) := HintOk.n1 (Q := True) (by kernel_rfl) trivial
theorem i_Disk_rename.hE : EOk Tryz.prog (i_Disk_rename.E) := EOk.of ttOk (⟨i_Disk_fileAt.fok, ⟨slices_Delete_SLi_File_i_File.fok, ⟨i_NameOK.fok, ⟨slices_Insert_SLi_File_i_File.fok, trivial⟩⟩⟩⟩)
theorem i_Disk_rename.fok : FOk Tryz.prog 106 i_Disk_rename.fi :=
  fokS (E := i_Disk_rename.E) (wy := ⟨[[none]], [[none, some (kFile, true)], [], []], []⟩) (h := (fun gs => .a)) (G := fun t g => i_Disk_rename.F (fun y0 y1 y2 => g (y0, y1, y2)) t.1.1 t.1.2.1 t.2.1 t.2.2.1) (by kernel_rfl) i_Disk_rename.hE Tryz.func106 (by kernel_rfl) rfl (Nat.le_refl _) (fun t => HintOk.n1 (by kernel_rfl) (i_Disk_rename.hok i_Disk_rename.hE)) (fun t g => i_Disk_rename_nat g t.1.1 t.1.2.1 t.2.1 t.2.2.1) (fun t => by kernel_rfl)
/-! __loop.example_g00220_impl.Disk_.do -/
def i_Disk_do.F {R : Type} (kk : Int → Int → List (El kFile) → Option R) (d_Room : Int) (d_Files : List (El kFile)) (a_Kind : Int) (a_N : Int) (a_Name : ByteArray) (a_To : ByteArray) (a_Data : ByteArray) (a_Keep : List Int) : Option R :=
  cond (a_Kind == (1 : Int)) (
    (i_Disk_append d_Room d_Files a_Name a_Data).bind fun r =>
    kk r.1 r.2.1 r.2.2) (
    cond (a_Kind == (5 : Int)) (
      (i_Disk_crash d_Room d_Files a_Keep).bind fun r1 =>
      kk (0 : Int) r1.1 r1.2) (
      (i_within a_Kind (2 : Int) (6 : Int)).bind fun r2 =>
      cond (!r2) (kk (3 : Int) d_Room d_Files) (
        (i_Disk_fileAt d_Room d_Files a_Name).bind fun r3 =>
        cond (!r3.2) (kk (5 : Int) d_Room d_Files) (
          grd (gIx r3.1 (List.length d_Files)) <|
          cond (a_Kind == (2 : Int)) (
            kk (0 : Int) d_Room (setE kFile d_Files (Int.toNat r3.1) ((rdE kFile d_Files (Int.toNat r3.1)).1, ((rdE kFile d_Files (Int.toNat r3.1)).2.1, (ByteArray.size (rdE kFile d_Files (Int.toNat r3.1)).2.1 : Int))))) (
            cond (a_Kind == (3 : Int)) (
              (i_Disk_rename d_Room d_Files r3.1 a_To).bind fun r4 =>
              kk r4.1 r4.2.1 r4.2.2) (
              cond (a_Kind == (4 : Int)) (
                (slices_Delete_SLi_File_i_File d_Files r3.1 (IntKind.wrap .i64 (r3.1 + (1 : Int)))).bind fun r5 =>
                kk (0 : Int) d_Room r5) (
                cond (a_Kind == (6 : Int)) (
                  (i_within a_N (0 : Int) (ByteArray.size (rdE kFile d_Files (Int.toNat r3.1)).2.1 : Int)).bind fun r6 =>
                  cond (!r6) (kk (4 : Int) d_Room d_Files) (
                    grd (gSl (0 : Int) a_N (ByteArray.size (rdE kFile d_Files (Int.toNat r3.1)).2.1)) <|
                    kk (0 : Int) d_Room (setE kFile (setE kFile d_Files (Int.toNat r3.1) ((rdE kFile d_Files (Int.toNat r3.1)).1, (cut (rdE kFile d_Files (Int.toNat r3.1)).2.1 (0 : Int) a_N, (rdE kFile d_Files (Int.toNat r3.1)).2.2))) (Int.toNat r3.1) ((rdE kFile (setE kFile d_Files (Int.toNat r3.1) ((rdE kFile d_Files (Int.toNat r3.1)).1, (cut (rdE kFile d_Files (Int.toNat r3.1)).2.1 (0 : Int) a_N, (rdE kFile d_Files (Int.toNat r3.1)).2.2))) (Int.toNat r3.1)).1, ((rdE kFile (setE kFile d_Files (Int.toNat r3.1) ((rdE kFile d_Files (Int.toNat r3.1)).1, (cut (rdE kFile d_Files (Int.toNat r3.1)).2.1 (0 : Int) a_N, (rdE kFile d_Files (Int.toNat r3.1)).2.2))) (Int.toNat r3.1)).2.1, mn2 (rdE kFile d_Files (Int.toNat r3.1)).2.2 a_N))))) (kk (0 : Int) d_Room d_Files))))))))
theorem i_Disk_do.F_nat {R S : Type} (g : R → Option S) (kk : Int → Int → List (El kFile) → Option R) (d_Room : Int) (d_Files : List (El kFile)) (a_Kind : Int) (a_N : Int) (a_Name : ByteArray) (a_To : ByteArray) (a_Data : ByteArray) (a_Keep : List Int) : i_Disk_do.F (fun y0 y1 y2 => (kk y0 y1 y2).bind g) d_Room d_Files a_Kind a_N a_Name a_To a_Data a_Keep = (i_Disk_do.F kk d_Room d_Files a_Kind a_N a_Name a_To a_Data a_Keep).bind g := by
  simp only [i_Disk_do.F, grd_bind, cnd_bind, bnd_bind, non_bind]
def i_Disk_do (d_Room : Int) (d_Files : List (El kFile)) (a_Kind : Int) (a_N : Int) (a_Name : ByteArray) (a_To : ByteArray) (a_Data : ByteArray) (a_Keep : List Int) : Option (Int × Int × List (El kFile)) := i_Disk_do.F (fun y0 y1 y2 => some (y0, y1, y2)) d_Room d_Files a_Kind a_N a_Name a_To a_Data a_Keep
theorem i_Disk_do_nat {S : Type} (g : (Int × Int × List (El kFile)) → Option S) (d_Room : Int) (d_Files : List (El kFile)) (a_Kind : Int) (a_N : Int) (a_Name : ByteArray) (a_To : ByteArray) (a_Data : ByteArray) (a_Keep : List Int) : i_Disk_do.F (fun y0 y1 y2 => g (y0, y1, y2)) d_Room d_Files a_Kind a_N a_Name a_To a_Data a_Keep = (i_Disk_do d_Room d_Files a_Kind a_N a_Name a_To a_Data a_Keep).bind g := i_Disk_do.F_nat g (fun y0 y1 y2 => some (y0, y1, y2)) d_Room d_Files a_Kind a_N a_Name a_To a_Data a_Keep
def i_Disk_do.out : (Int × Int × List (El kFile)) → CRes := fun a => ⟨encL SV.enc [.one (.int .i64)] (a.1, ()), [encL SC.enc [.int .i64, .own [] kFile true] (a.2.1, a.2.2, ()), encL SC.enc [] ()]⟩
def i_Disk_do.ps : List PS := [.ptr [none, some (kFile, true)], .val [none, none, none, none, none, some ((.int .i64), false)]]
def i_Disk_do.sA : List SA := [.ptr [.int .i64, .own [] kFile true], .v (.agg [.int .i64, .int .i64, .str, .str, .str, .slv [] (.int .i64)])]
def i_Disk_do.fi : FI := FIs i_Disk_do.sA (Int × Int × List (El kFile)) (fun t => i_Disk_do t.1.1 t.1.2.1 t.2.1.1 t.2.1.2.1 t.2.1.2.2.1 t.2.1.2.2.2.1 t.2.1.2.2.2.2.1 t.2.1.2.2.2.2.2.1) i_Disk_do.out i_Disk_do.ps
def i_Disk_do.E : Env := ⟨tt, lkF [(67, i_within.fi), (76, i_Disk_fileAt.fi), (104, i_Disk_append.fi), (105, i_Disk_crash.fi), (106, i_Disk_rename.fi), (107, slices_Delete_SLi_File_i_File.fi)], 111, 1, [], []⟩
theorem i_Disk_do.hok (hE : EOk Tryz.prog (i_Disk_do.E)) : HintOk Tryz.prog i_Disk_do.E (bodyOf Tryz.f55) (.a) := HintOk.n1 (Q := True) (by kernel_rfl) trivial
theorem i_Disk_do.hE : EOk Tryz.prog (i_Disk_do.E) := EOk.of ttOk (⟨i_within.fok, ⟨i_Disk_fileAt.fok, ⟨i_Disk_append.fok, ⟨i_Disk_crash.fok, ⟨i_Disk_rename.fok, ⟨slices_Delete_SLi_File_i_File.fok, trivial⟩⟩⟩⟩⟩⟩)
theorem i_Disk_do.fok : FOk Tryz.prog 55 i_Disk_do.fi :=
  fokS (E := i_Disk_do.E) (wy := ⟨[[none]], [[none, some (kFile, true)], []], []⟩) (h := (fun gs => .a)) (G := fun t g => i_Disk_do.F (fun y0 y1 y2 => g (y0, y1, y2)) t.1.1 t.1.2.1 t.2.1.1 t.2.1.2.1 t.2.1.2.2.1 t.2.1.2.2.2.1 t.2.1.2.2.2.2.1 t.2.1.2.2.2.2.2.1) (by kernel_rfl) i_Disk_do.hE Tryz.func55 (by kernel_rfl) rfl (Nat.le_refl _) (fun t => HintOk.n1 (by kernel_rfl) (i_Disk_do.hok i_Disk_do.hE)) (fun t g => i_Disk_do_nat g t.1.1 t.1.2.1 t.2.1.1 t.2.1.2.1 t.2.1.2.2.1 t.2.1.2.2.2.1 t.2.1.2.2.2.2.1 t.2.1.2.2.2.2.2.1) (fun t => by kernel_rfl)
/-! loop.example_g00220_impl.WalForget -/
def i_WalForget.l1 {R : Type} (kke1 : Int → Int → List (El kFile) → Option R) : Nat → Int → Int → Int → List (El kFile) → Int → Int → Int → Int → List ByteArray → List ByteArray → List (El kFile) → Option R
  | 0, _, _, _, _, _, _, _, _, _, _, _ => none
  | n + 1, below, i, d, d1, i1, w, w1, out, l, l1, l2 =>
    cond (decide ((IntKind.wrap .i64 (i + (1 : Int))) < (List.length l1 : Int))) (
      grd (gIx (IntKind.wrap .i64 (i + (1 : Int))) (List.length l1)) <|
      (i_Disk_firstNumber d d1 (rdE (.str : Kd) l1 (Int.toNat (IntKind.wrap .i64 (i + (1 : Int)))))).bind fun r =>
      cond (!r.2) (kke1 i1 out l2) (
        cond (decide (r.1 > below)) (kke1 i1 out l2) (
          grd (gIx i (List.length l1)) <|
          (i_Disk_do out l2 (4 : Int) (0 : Int) (rdE (.str : Kd) l1 (Int.toNat i)) ByteArray.empty ByteArray.empty []).bind fun r1 =>
          i_WalForget.l1 kke1 n below (IntKind.wrap .i64 (i + (1 : Int))) d d1 i1 w w1 r1.2.1 l l1 r1.2.2))) (kke1 i1 out l2)
theorem i_WalForget.l1_nat {R S : Type} (g : R → Option S) (kke1 : Int → Int → List (El kFile) → Option R) : ∀ (n : Nat) (below : Int) (i : Int) (d : Int) (d1 : List (El kFile)) (i1 : Int) (w : Int) (w1 : Int) (out : Int) (l : List ByteArray) (l1 : List ByteArray) (l2 : List (El kFile)), i_WalForget.l1 (fun y0 y1 y2 => (kke1 y0 y1 y2).bind g) n below i d d1 i1 w w1 out l l1 l2 = (i_WalForget.l1 kke1 n below i d d1 i1 w w1 out l l1 l2).bind g := by
  intro n
  induction n with
  | zero => intros; rfl
  | succ n ih => intros; simp only [i_WalForget.l1, grd_bind, cnd_bind, bnd_bind, non_bind, ih]
def i_WalForget.F {R : Type} (kk : Int → List (El kFile) → Int → Option R) (d_Room : Int) (d_Files : List (El kFile)) (below : Int) : Option R :=
  (i_WalRead d_Room d_Files).bind fun r =>
  cond (r.2.2.2.2 != (0 : Int)) (kk (0 : Int) [] r.2.2.2.2) (
    cond (decide (below < (0 : Int))) (kk (0 : Int) [] (4 : Int)) (
      (i_copyDisk d_Room d_Files).bind fun r1 =>
      i_WalForget.l1 (fun i out l => kk out l (0 : Int)) fuel below (0 : Int) d_Room d_Files (0 : Int) r.1 r.2.2.2.1 r1.1 r.2.1 r.2.2.1 r1.2))
theorem i_WalForget.F_nat {R S : Type} (g : R → Option S) (kk : Int → List (El kFile) → Int → Option R) (d_Room : Int) (d_Files : List (El kFile)) (below : Int) : i_WalForget.F (fun y0 y1 y2 => (kk y0 y1 y2).bind g) d_Room d_Files below = (i_WalForget.F kk d_Room d_Files below).bind g := by
  simp only [i_WalForget.F, grd_bind, cnd_bind, bnd_bind, non_bind, ← i_WalForget.l1_nat]
def i_WalForget (d_Room : Int) (d_Files : List (El kFile)) (below : Int) : Option (Int × List (El kFile) × Int) := i_WalForget.F (fun y0 y1 y2 => some (y0, y1, y2)) d_Room d_Files below
theorem i_WalForget_nat {S : Type} (g : (Int × List (El kFile) × Int) → Option S) (d_Room : Int) (d_Files : List (El kFile)) (below : Int) : i_WalForget.F (fun y0 y1 y2 => g (y0, y1, y2)) d_Room d_Files below = (i_WalForget d_Room d_Files below).bind g := i_WalForget.F_nat g (fun y0 y1 y2 => some (y0, y1, y2)) d_Room d_Files below
def i_WalForget.out : (Int × List (El kFile) × Int) → CRes := fun a => ⟨encL SV.enc [.agg [.int .i64, .own [] kFile true], .one (.int .i64)] ((a.1, a.2.1, ()), a.2.2, ()), [encL SC.enc [] (), encL SC.enc [] ()]⟩
def i_WalForget.ps : List PS := [.val [none, some (kFile, false)], .val [none]]
def i_WalForget.sA : List SA := [.v (.agg [.int .i64, .slv [] kFile]), .v (.one (.int .i64))]
def i_WalForget.fi : FI := FIs i_WalForget.sA (Int × List (El kFile) × Int) (fun t => i_WalForget t.1.1 t.1.2.1 t.2.1) i_WalForget.out i_WalForget.ps
def i_WalForget.E : Env := ⟨tt, lkF [(21, i_WalRead.fi), (53, i_copyDisk.fi), (54, i_Disk_firstNumber.fi), (55, i_Disk_do.fi)], 62, 0, [], []⟩
def i_WalForget.sh1 : SK := ⟨[.v (.one (.int .i64)), .v (.one (.bptr 0 0)), .v (.one (.bptr 1 0)), .v (.one (.bptr 2 0)), .v (.one (.bptr 3 0)), .v (.one (.int .i64))], [.box [.int .i64, .slv [1] kFile], .box [.int .i64, .nil], .box [.int .i64, .slo 4, .slo 5, .int .i64], .box [.int .i64, .slo 6], .arr .str [] true, .arr .str [] true, .arr kFile [] true]⟩
def i_WalForget.sh1e1 : SK := ⟨[.v (.one (.bptr 0 0)), .v (.one (.bptr 1 0))], [.box [.int .i64, .nil], .box [.int .i64, .slo 2], .arr kFile [] true]⟩
def i_WalForget.ko1 : Ex → List CastAt × List Nat
  | .nrm => ([], [])
  | .ret => ([], [])
  | .ext i => cond (Nat.beq i 1) ([], [4, 8]) ([], [])
def i_WalForget.G1 (n : Nat) (R : Type) (t : i_WalForget.sh1.T) (K : Ex → Kp → Option R) : Option R := i_WalForget.l1 (fun y0 y1 y2 => K (.ext 1) (SK.enc i_WalForget.sh1e1 (((), (), ()), ((y0, (), ()), (y1, (), ()), y2, ())))) n t.1.1 t.1.2.2.2.2.2.1 t.2.1.1 t.2.1.2.1 t.2.2.1.1 t.2.2.2.1.1 t.2.2.2.1.2.2.2.1 t.2.2.2.2.1.1 t.2.2.2.2.2.1 t.2.2.2.2.2.2.1 t.2.2.2.2.2.2.2.1
def i_WalForget.S1 : Sum := ⟨([], [1, 2, 4, 6, 8, 9]), sumF i_WalForget.sh1 (i_WalForget.G1 fuel), i_WalForget.ko1⟩
theorem i_WalForget.ok1 (hE : EOk Tryz.prog (i_WalForget.E)) : SumOk Tryz.prog i_WalForget.E (cB (cR (cL (cR (cR (cR (cR (bodyOf Tryz.f13)))))))) (i_WalForget.S1) := by
  have hh : HintOk Tryz.prog i_WalForget.E (cB (cB (cR (cL (cR (cR (cR (cR (bodyOf Tryz.f13))))))))) (.a) := HintOk.n1 (Q := True) (by kernel_rfl) trivial
  have h := loopS (kin := ([], [1, 2, 4, 6, 8, 9])) (kout := i_WalForget.ko1) (sh := i_WalForget.sh1) (F := i_WalForget.G1) (ops_ok (hE.gv _)) (by kernel_rfl) hh (fun _ _ _ => rfl) (fun n R t K => by kernel_rfl) fuel
  exact HintOk.n1 (c := (cB (cR (cL (cR (cR (cR (cR (bodyOf Tryz.f13))))))))) (h := .s (i_WalForget.S1)) (P := Tryz.prog) (E := i_WalForget.E) (by kernel_rfl) h
theorem i_WalForget.hok (hE : EOk Tryz.prog (i_WalForget.E)) : HintOk Tryz.prog i_WalForget.E (bodyOf Tryz.f13) (.n (.a) (.n (.a) (.n (.a) (.n (.a) (.n (.n (.a) (.b (.s (i_WalForget.S1)))) (.a)))))) := HintOk.n1 (Q := (True) ∧ ((True) ∧ ((True) ∧ ((True) ∧ (((True) ∧ (SumOk Tryz.prog i_WalForget.E (cB (cR (cL (cR (cR (cR (cR (bodyOf Tryz.f13)))))))) (i_WalForget.S1))) ∧ (True)))))) (by kernel_rfl) ⟨trivial, ⟨trivial, ⟨trivial, ⟨trivial, ⟨⟨trivial, (i_WalForget.ok1 hE)⟩, trivial⟩⟩⟩⟩⟩
theorem i_WalForget.hE : EOk Tryz.prog (i_WalForget.E) := EOk.of ttOk (⟨i_WalRead.fok, ⟨i_copyDisk.fok, ⟨i_Disk_firstNumber.fok, ⟨i_Disk_do.fok, trivial⟩⟩⟩⟩)
theorem i_WalForget.fok : FOk Tryz.prog 13 i_WalForget.fi :=
  fokS (E := i_WalForget.E) (wy := ⟨[[none, some (kFile, true)], [none]], [[], []], []⟩) (h := (fun gs => .n (.a) (.n (.a) (.n (.a) (.n (.a) (.n (.n (.a) (.b (.s (i_WalForget.S1)))) (.a))))))) (G := fun t g => i_WalForget.F (fun y0 y1 y2 => g (y0, y1, y2)) t.1.1 t.1.2.1 t.2.1) (by kernel_rfl) i_WalForget.hE Tryz.func13 (by kernel_rfl) rfl (Nat.le_refl _) (fun t => HintOk.n1 (by kernel_rfl) (i_WalForget.hok i_WalForget.hE)) (fun t g => i_WalForget_nat g t.1.1 t.1.2.1 t.2.1) (fun t => by kernel_rfl)
/-! loop.example_g00220_laws.eqFile -/
def l_eqFile.F {R : Type} (kk : Bool → Option R) (a_Name : ByteArray) (a_Data : ByteArray) (a_Sure : Int) (b_Name : ByteArray) (b_Data : ByteArray) (b_Sure : Int) : Option R :=
  cond (!(sEq a_Name b_Name)) (kk false) (cond (!(sEq a_Data b_Data)) (kk false) (cond (a_Sure != b_Sure) (kk false) (kk true)))
theorem l_eqFile.F_nat {R S : Type} (g : R → Option S) (kk : Bool → Option R) (a_Name : ByteArray) (a_Data : ByteArray) (a_Sure : Int) (b_Name : ByteArray) (b_Data : ByteArray) (b_Sure : Int) : l_eqFile.F (fun y0 => (kk y0).bind g) a_Name a_Data a_Sure b_Name b_Data b_Sure = (l_eqFile.F kk a_Name a_Data a_Sure b_Name b_Data b_Sure).bind g := by
  simp only [l_eqFile.F, grd_bind, cnd_bind, bnd_bind, non_bind]
def l_eqFile (a_Name : ByteArray) (a_Data : ByteArray) (a_Sure : Int) (b_Name : ByteArray) (b_Data : ByteArray) (b_Sure : Int) : Option Bool := l_eqFile.F (fun y0 => some y0) a_Name a_Data a_Sure b_Name b_Data b_Sure
theorem l_eqFile_nat {S : Type} (g : Bool → Option S) (a_Name : ByteArray) (a_Data : ByteArray) (a_Sure : Int) (b_Name : ByteArray) (b_Data : ByteArray) (b_Sure : Int) : l_eqFile.F (fun y0 => g y0) a_Name a_Data a_Sure b_Name b_Data b_Sure = (l_eqFile a_Name a_Data a_Sure b_Name b_Data b_Sure).bind g := l_eqFile.F_nat g (fun y0 => some y0) a_Name a_Data a_Sure b_Name b_Data b_Sure
def l_eqFile.out : Bool → CRes := fun a => ⟨encL SV.enc [.one (.bool)] (a, ()), [encL SC.enc [] (), encL SC.enc [] ()]⟩
def l_eqFile.ps : List PS := [.val [none, none, none], .val [none, none, none]]
def l_eqFile.sA : List SA := [.v (.agg [.str, .str, .int .i64]), .v (.agg [.str, .str, .int .i64])]
def l_eqFile.fi : FI := FIs l_eqFile.sA (Bool) (fun t => l_eqFile t.1.1 t.1.2.1 t.1.2.2.1 t.2.1.1 t.2.1.2.1 t.2.1.2.2.1) l_eqFile.out l_eqFile.ps
def l_eqFile.E : Env := ⟨tt, lkF [], 20, 0, [], []⟩
theorem l_eqFile.hok (hE : EOk Tryz.prog (l_eqFile.E)) : HintOk Tryz.prog l_eqFile.E (bodyOf Tryz.f108) (.a) := HintOk.n1 (Q := True) (by kernel_rfl) trivial
theorem l_eqFile.hE : EOk Tryz.prog (l_eqFile.E) := EOk.of ttOk (trivial)
theorem l_eqFile.fok : FOk Tryz.prog 108 l_eqFile.fi :=
  fokS (E := l_eqFile.E) (wy := ⟨[[none]], [[], []], []⟩) (h := (fun gs => .a)) (G := fun t g => l_eqFile.F (fun y0 => g y0) t.1.1 t.1.2.1 t.1.2.2.1 t.2.1.1 t.2.1.2.1 t.2.1.2.2.1) (by kernel_rfl) l_eqFile.hE Tryz.func108 (by kernel_rfl) rfl (Nat.le_refl _) (fun t => HintOk.n1 (by kernel_rfl) (l_eqFile.hok l_eqFile.hE)) (fun t g => l_eqFile_nat g t.1.1 t.1.2.1 t.1.2.2.1 t.2.1.1 t.2.1.2.1 t.2.1.2.2.1) (fun t => by kernel_rfl)
/-! loop.example_g00220_laws.eqFileS -/
def l_eqFileS.l1 {R : Type} (kke0 : Option R) (kkr : Bool → Option R) : Nat → List (El kFile) → List (El kFile) → Int → Option R
  | 0, _, _, _ => none
  | n + 1, a, b, i =>
    cond (decide (i < (List.length a : Int))) (
      grd (gIx i (List.length a)) <|
      grd (gIx i (List.length b)) <|
      (l_eqFile ((rdE kFile a (Int.toNat i)).1) ((rdE kFile a (Int.toNat i)).2.1) ((rdE kFile a (Int.toNat i)).2.2) ((rdE kFile b (Int.toNat i)).1) ((rdE kFile b (Int.toNat i)).2.1) ((rdE kFile b (Int.toNat i)).2.2)).bind fun r =>
      cond (!r) (kkr false) (l_eqFileS.l1 kke0 kkr n a b (IntKind.wrap .i64 (i + (1 : Int))))) (kke0)
theorem l_eqFileS.l1_nat {R S : Type} (g : R → Option S) (kke0 : Option R) (kkr : Bool → Option R) : ∀ (n : Nat) (a : List (El kFile)) (b : List (El kFile)) (i : Int), l_eqFileS.l1 (kke0.bind g) (fun y0 => (kkr y0).bind g) n a b i = (l_eqFileS.l1 kke0 kkr n a b i).bind g := by
  intro n
  induction n with
  | zero => intros; rfl
  | succ n ih => intros; simp only [l_eqFileS.l1, grd_bind, cnd_bind, bnd_bind, non_bind, ih]
def l_eqFileS.F {R : Type} (kk : Bool → Option R) (a : List (El kFile)) (b : List (El kFile)) : Option R :=
  cond ((List.length a : Int) != (List.length b : Int)) (kk false) (l_eqFileS.l1 (kk true) (fun b1 => kk b1) fuel a b (0 : Int))
theorem l_eqFileS.F_nat {R S : Type} (g : R → Option S) (kk : Bool → Option R) (a : List (El kFile)) (b : List (El kFile)) : l_eqFileS.F (fun y0 => (kk y0).bind g) a b = (l_eqFileS.F kk a b).bind g := by
  simp only [l_eqFileS.F, grd_bind, cnd_bind, bnd_bind, non_bind, ← l_eqFileS.l1_nat]
def l_eqFileS (a : List (El kFile)) (b : List (El kFile)) : Option Bool := l_eqFileS.F (fun y0 => some y0) a b
theorem l_eqFileS_nat {S : Type} (g : Bool → Option S) (a : List (El kFile)) (b : List (El kFile)) : l_eqFileS.F (fun y0 => g y0) a b = (l_eqFileS a b).bind g := l_eqFileS.F_nat g (fun y0 => some y0) a b
def l_eqFileS.out : Bool → CRes := fun a => ⟨encL SV.enc [.one (.bool)] (a, ()), [encL SC.enc [] (), encL SC.enc [] ()]⟩
def l_eqFileS.ps : List PS := [.val [some (kFile, false)], .val [some (kFile, false)]]
def l_eqFileS.sA : List SA := [.v (.one (.slv [] kFile)), .v (.one (.slv [] kFile))]
def l_eqFileS.fi : FI := FIs l_eqFileS.sA (Bool) (fun t => l_eqFileS t.1 t.2.1) l_eqFileS.out l_eqFileS.ps
def l_eqFileS.E : Env := ⟨tt, lkF [(108, l_eqFile.fi)], 27, 0, [], []⟩
def l_eqFileS.sh1 : SK := ⟨[.v (.one (.slv [1] kFile)), .v (.one (.slv [2] kFile)), .v (.one (.int .i64))], []⟩
def l_eqFileS.sh1e0 : SK := ⟨[], []⟩
def l_eqFileS.sh1r : SK := ⟨[.v (.one (.bool))], []⟩
def l_eqFileS.ko1 : Ex → List CastAt × List Nat
  | .nrm => ([], [])
  | .ret => ([], [4])
  | .ext i => cond (Nat.beq i 0) ([], []) ([], [])
def l_eqFileS.G1 (n : Nat) (R : Type) (t : l_eqFileS.sh1.T) (K : Ex → Kp → Option R) : Option R := l_eqFileS.l1 (K (.ext 0) (SK.enc l_eqFileS.sh1e0 ((), ()))) (fun y0 => K .ret (SK.enc l_eqFileS.sh1r ((y0, ()), ()))) n t.1.1 t.1.2.1 t.1.2.2.1
def l_eqFileS.S1 : Sum := ⟨([], [0, 1, 5]), sumF l_eqFileS.sh1 (l_eqFileS.G1 fuel), l_eqFileS.ko1⟩
theorem l_eqFileS.ok1 (hE : EOk Tryz.prog (l_eqFileS.E)) : SumOk Tryz.prog l_eqFileS.E (cB (cR (cL (cR (cR (bodyOf Tryz.f56)))))) (l_eqFileS.S1) := by
  have hh : HintOk Tryz.prog l_eqFileS.E (cB (cB (cR (cL (cR (cR (bodyOf Tryz.f56))))))) (.a) := HintOk.n1 (Q := True) (by kernel_rfl) trivial
  have h := loopS (kin := ([], [0, 1, 5])) (kout := l_eqFileS.ko1) (sh := l_eqFileS.sh1) (F := l_eqFileS.G1) (ops_ok (hE.gv _)) (by kernel_rfl) hh (fun _ _ _ => rfl) (fun n R t K => by kernel_rfl) fuel
  exact HintOk.n1 (c := (cB (cR (cL (cR (cR (bodyOf Tryz.f56))))))) (h := .s (l_eqFileS.S1)) (P := Tryz.prog) (E := l_eqFileS.E) (by kernel_rfl) h
theorem l_eqFileS.hok (hE : EOk Tryz.prog (l_eqFileS.E)) : HintOk Tryz.prog l_eqFileS.E (bodyOf Tryz.f56) (.n (.a) (.n (.a) (.n (.n (.a) (.b (.s (l_eqFileS.S1)))) (.a)))) := HintOk.n1 (Q := (True) ∧ ((True) ∧ (((True) ∧ (SumOk Tryz.prog l_eqFileS.E (cB (cR (cL (cR (cR (bodyOf Tryz.f56)))))) (l_eqFileS.S1))) ∧ (True)))) (by kernel_rfl) ⟨trivial, ⟨trivial, ⟨⟨trivial, (l_eqFileS.ok1 hE)⟩, trivial⟩⟩⟩
theorem l_eqFileS.hE : EOk Tryz.prog (l_eqFileS.E) := EOk.of ttOk (⟨l_eqFile.fok, trivial⟩)
theorem l_eqFileS.fok : FOk Tryz.prog 56 l_eqFileS.fi :=
  fokS (E := l_eqFileS.E) (wy := ⟨[[none]], [[], []], []⟩) (h := (fun gs => .n (.a) (.n (.a) (.n (.n (.a) (.b (.s (l_eqFileS.S1)))) (.a))))) (G := fun t g => l_eqFileS.F (fun y0 => g y0) t.1 t.2.1) (by kernel_rfl) l_eqFileS.hE Tryz.func56 (by kernel_rfl) rfl (Nat.le_refl _) (fun t => HintOk.n1 (by kernel_rfl) (l_eqFileS.hok l_eqFileS.hE)) (fun t g => l_eqFileS_nat g t.1 t.2.1) (fun t => by kernel_rfl)
/-! loop.example_g00220_laws.eqDisk -/
def l_eqDisk.F {R : Type} (kk : Bool → Option R) (a_Room : Int) (a_Files : List (El kFile)) (b_Room : Int) (b_Files : List (El kFile)) : Option R :=
  cond (a_Room != b_Room) (kk false) (
    (l_eqFileS a_Files b_Files).bind fun r =>
    cond (!r) (kk false) (kk true))
theorem l_eqDisk.F_nat {R S : Type} (g : R → Option S) (kk : Bool → Option R) (a_Room : Int) (a_Files : List (El kFile)) (b_Room : Int) (b_Files : List (El kFile)) : l_eqDisk.F (fun y0 => (kk y0).bind g) a_Room a_Files b_Room b_Files = (l_eqDisk.F kk a_Room a_Files b_Room b_Files).bind g := by
  simp only [l_eqDisk.F, grd_bind, cnd_bind, bnd_bind, non_bind]
def l_eqDisk (a_Room : Int) (a_Files : List (El kFile)) (b_Room : Int) (b_Files : List (El kFile)) : Option Bool := l_eqDisk.F (fun y0 => some y0) a_Room a_Files b_Room b_Files
theorem l_eqDisk_nat {S : Type} (g : Bool → Option S) (a_Room : Int) (a_Files : List (El kFile)) (b_Room : Int) (b_Files : List (El kFile)) : l_eqDisk.F (fun y0 => g y0) a_Room a_Files b_Room b_Files = (l_eqDisk a_Room a_Files b_Room b_Files).bind g := l_eqDisk.F_nat g (fun y0 => some y0) a_Room a_Files b_Room b_Files
def l_eqDisk.out : Bool → CRes := fun a => ⟨encL SV.enc [.one (.bool)] (a, ()), [encL SC.enc [] (), encL SC.enc [] ()]⟩
def l_eqDisk.ps : List PS := [.val [none, some (kFile, false)], .val [none, some (kFile, false)]]
def l_eqDisk.sA : List SA := [.v (.agg [.int .i64, .slv [] kFile]), .v (.agg [.int .i64, .slv [] kFile])]
def l_eqDisk.fi : FI := FIs l_eqDisk.sA (Bool) (fun t => l_eqDisk t.1.1 t.1.2.1 t.2.1.1 t.2.1.2.1) l_eqDisk.out l_eqDisk.ps
def l_eqDisk.E : Env := ⟨tt, lkF [(56, l_eqFileS.fi)], 16, 0, [], []⟩
theorem l_eqDisk.hok (hE : EOk Tryz.prog (l_eqDisk.E)) : HintOk Tryz.prog l_eqDisk.E (bodyOf Tryz.f14) (.a) := HintOk.n1 (Q := True) (by kernel_rfl) trivial
theorem l_eqDisk.hE : EOk Tryz.prog (l_eqDisk.E) := EOk.of ttOk (⟨l_eqFileS.fok, trivial⟩)
theorem l_eqDisk.fok : FOk Tryz.prog 14 l_eqDisk.fi :=
  fokS (E := l_eqDisk.E) (wy := ⟨[[none]], [[], []], []⟩) (h := (fun gs => .a)) (G := fun t g => l_eqDisk.F (fun y0 => g y0) t.1.1 t.1.2.1 t.2.1.1 t.2.1.2.1) (by kernel_rfl) l_eqDisk.hE Tryz.func14 (by kernel_rfl) rfl (Nat.le_refl _) (fun t => HintOk.n1 (by kernel_rfl) (l_eqDisk.hok l_eqDisk.hE)) (fun t g => l_eqDisk_nat g t.1.1 t.1.2.1 t.2.1.1 t.2.1.2.1) (fun t => by kernel_rfl)
/-! loop.example_g00220_laws.markText -/
def l_markText.l1 {R : Type} (kke0 : ByteArray → Option R) : Nat → Int → ByteArray → Option R
  | 0, _, _ => none
  | n + 1, k_, out =>
    cond (decide (k_ > (0 : Int))) (
      grd (gNz (10 : Int)) <|
      grd (gCat (strL [IntKind.wrap .u8 (IntKind.wrap .i64 ((48 : Int) + (Int.tmod k_ (10 : Int))))]) out) <|
      grd (gNz (10 : Int)) <|
      l_markText.l1 kke0 n (IntKind.wrap .i64 (Int.tdiv k_ (10 : Int))) ((strL [IntKind.wrap .u8 (IntKind.wrap .i64 ((48 : Int) + (Int.tmod k_ (10 : Int))))]) ++ out)) (kke0 out)
theorem l_markText.l1_nat {R S : Type} (g : R → Option S) (kke0 : ByteArray → Option R) : ∀ (n : Nat) (k_ : Int) (out : ByteArray), l_markText.l1 (fun y0 => (kke0 y0).bind g) n k_ out = (l_markText.l1 kke0 n k_ out).bind g := by
  intro n
  induction n with
  | zero => intros; rfl
  | succ n ih => intros; simp only [l_markText.l1, grd_bind, cnd_bind, bnd_bind, non_bind, ih]
def l_markText.F {R : Type} (kk : ByteArray → Option R) (k_ : Int) : Option R :=
  cond (decide (k_ ≤ (0 : Int))) (kk (⟨#[109, 48]⟩ : ByteArray)) (
    l_markText.l1 (fun out =>
      grd (gCat (⟨#[109]⟩ : ByteArray) out) <|
      kk ((⟨#[109]⟩ : ByteArray) ++ out)) fuel k_ ByteArray.empty)
theorem l_markText.F_nat {R S : Type} (g : R → Option S) (kk : ByteArray → Option R) (k_ : Int) : l_markText.F (fun y0 => (kk y0).bind g) k_ = (l_markText.F kk k_).bind g := by
  simp only [l_markText.F, grd_bind, cnd_bind, bnd_bind, non_bind, ← l_markText.l1_nat]
def l_markText (k_ : Int) : Option ByteArray := l_markText.F (fun y0 => some y0) k_
theorem l_markText_nat {S : Type} (g : ByteArray → Option S) (k_ : Int) : l_markText.F (fun y0 => g y0) k_ = (l_markText k_).bind g := l_markText.F_nat g (fun y0 => some y0) k_
def l_markText.out : ByteArray → CRes := fun a => ⟨encL SV.enc [.one (.str)] (a, ()), [encL SC.enc [] ()]⟩
def l_markText.ps : List PS := [.val [none]]
def l_markText.sA : List SA := [.v (.one (.int .i64))]
def l_markText.fi : FI := FIs l_markText.sA (ByteArray) (fun t => l_markText t.1) l_markText.out l_markText.ps
def l_markText.E : Env := ⟨tt, lkF [], 20, 0, [], []⟩
def l_markText.sh1 : SK := ⟨[.v (.one (.int .i64)), .v (.one (.str))], []⟩
def l_markText.sh1e0 : SK := ⟨[.v (.one (.str))], []⟩
def l_markText.ko1 : Ex → List CastAt × List Nat
  | .nrm => ([], [])
  | .ret => ([], [])
  | .ext i => cond (Nat.beq i 0) ([], [3]) ([], [])
def l_markText.G1 (n : Nat) (R : Type) (t : l_markText.sh1.T) (K : Ex → Kp → Option R) : Option R := l_markText.l1 (fun y0 => K (.ext 0) (SK.enc l_markText.sh1e0 ((y0, ()), ()))) n t.1.1 t.1.2.1
def l_markText.S1 : Sum := ⟨([], [0, 3]), sumF l_markText.sh1 (l_markText.G1 fuel), l_markText.ko1⟩
theorem l_markText.ok1 (hE : EOk Tryz.prog (l_markText.E)) : SumOk Tryz.prog l_markText.E (cB (cL (cR (cR (cR (bodyOf Tryz.f109)))))) (l_markText.S1) := by
  have hh : HintOk Tryz.prog l_markText.E (cB (cB (cL (cR (cR (cR (bodyOf Tryz.f109))))))) (.a) := HintOk.n1 (Q := True) (by kernel_rfl) trivial
  have h := loopS (kin := ([], [0, 3])) (kout := l_markText.ko1) (sh := l_markText.sh1) (F := l_markText.G1) (ops_ok (hE.gv _)) (by kernel_rfl) hh (fun _ _ _ => rfl) (fun n R t K => by kernel_rfl) fuel
  exact HintOk.n1 (c := (cB (cL (cR (cR (cR (bodyOf Tryz.f109))))))) (h := .s (l_markText.S1)) (P := Tryz.prog) (E := l_markText.E) (by kernel_rfl) h
theorem l_markText.hok (hE : EOk Tryz.prog (l_markText.E)) : HintOk Tryz.prog l_markText.E (bodyOf Tryz.f109) (.n (.a) (.n (.a) (.n (.a) (.n (.b (.s (l_markText.S1))) (.a))))) := HintOk.n1 (Q := (True) ∧ ((True) ∧ ((True) ∧ ((SumOk Tryz.prog l_markText.E (cB (cL (cR (cR (cR (bodyOf Tryz.f109)))))) (l_markText.S1)) ∧ (True))))) (by kernel_rfl) ⟨trivial, ⟨trivial, ⟨trivial, ⟨(l_markText.ok1 hE), trivial⟩⟩⟩⟩
theorem l_markText.hE : EOk Tryz.prog (l_markText.E) := EOk.of ttOk (trivial)
theorem l_markText.fok : FOk Tryz.prog 109 l_markText.fi :=
  fokS (E := l_markText.E) (wy := ⟨[[none]], [[]], []⟩) (h := (fun gs => .n (.a) (.n (.a) (.n (.a) (.n (.b (.s (l_markText.S1))) (.a)))))) (G := fun t g => l_markText.F (fun y0 => g y0) t.1) (by kernel_rfl) l_markText.hE Tryz.func109 (by kernel_rfl) rfl (Nat.le_refl _) (fun t => HintOk.n1 (by kernel_rfl) (l_markText.hok l_markText.hE)) (fun t g => l_markText_nat g t.1) (fun t => by kernel_rfl)
/-! loop.example_g00220_laws.markFileS -/
def l_markFileS.l1 {R : Type} (kke0 : Int → List (El kFile) → Option R) : Nat → Int → Int → List (El kFile) → Option R
  | 0, _, _, _ => none
  | n + 1, k_, i, a =>
    cond (decide (i < (List.length a : Int))) (
      (l_markText k_).bind fun r =>
      grd (gIx i (List.length a)) <|
      (l_markText (IntKind.wrap .i64 (k_ + (1 : Int)))).bind fun r1 =>
      grd (gIx i (List.length (setE kFile a (Int.toNat i) (r, (rdE kFile a (Int.toNat i)).2)))) <|
      grd (gIx i (List.length (setE kFile (setE kFile a (Int.toNat i) (r, (rdE kFile a (Int.toNat i)).2)) (Int.toNat i) ((rdE kFile (setE kFile a (Int.toNat i) (r, (rdE kFile a (Int.toNat i)).2)) (Int.toNat i)).1, (r1, (rdE kFile (setE kFile a (Int.toNat i) (r, (rdE kFile a (Int.toNat i)).2)) (Int.toNat i)).2.2))))) <|
      l_markFileS.l1 kke0 n (IntKind.wrap .i64 ((IntKind.wrap .i64 ((IntKind.wrap .i64 (k_ + (1 : Int))) + (1 : Int))) + (1 : Int))) (IntKind.wrap .i64 (i + (1 : Int))) (setE kFile (setE kFile (setE kFile a (Int.toNat i) (r, (rdE kFile a (Int.toNat i)).2)) (Int.toNat i) ((rdE kFile (setE kFile a (Int.toNat i) (r, (rdE kFile a (Int.toNat i)).2)) (Int.toNat i)).1, (r1, (rdE kFile (setE kFile a (Int.toNat i) (r, (rdE kFile a (Int.toNat i)).2)) (Int.toNat i)).2.2))) (Int.toNat i) ((rdE kFile (setE kFile (setE kFile a (Int.toNat i) (r, (rdE kFile a (Int.toNat i)).2)) (Int.toNat i) ((rdE kFile (setE kFile a (Int.toNat i) (r, (rdE kFile a (Int.toNat i)).2)) (Int.toNat i)).1, (r1, (rdE kFile (setE kFile a (Int.toNat i) (r, (rdE kFile a (Int.toNat i)).2)) (Int.toNat i)).2.2))) (Int.toNat i)).1, ((rdE kFile (setE kFile (setE kFile a (Int.toNat i) (r, (rdE kFile a (Int.toNat i)).2)) (Int.toNat i) ((rdE kFile (setE kFile a (Int.toNat i) (r, (rdE kFile a (Int.toNat i)).2)) (Int.toNat i)).1, (r1, (rdE kFile (setE kFile a (Int.toNat i) (r, (rdE kFile a (Int.toNat i)).2)) (Int.toNat i)).2.2))) (Int.toNat i)).2.1, IntKind.wrap .i64 ((IntKind.wrap .i64 (k_ + (1 : Int))) + (1 : Int)))))) (kke0 k_ a)
theorem l_markFileS.l1_nat {R S : Type} (g : R → Option S) (kke0 : Int → List (El kFile) → Option R) : ∀ (n : Nat) (k_ : Int) (i : Int) (a : List (El kFile)), l_markFileS.l1 (fun y0 y1 => (kke0 y0 y1).bind g) n k_ i a = (l_markFileS.l1 kke0 n k_ i a).bind g := by
  intro n
  induction n with
  | zero => intros; rfl
  | succ n ih => intros; simp only [l_markFileS.l1, grd_bind, cnd_bind, bnd_bind, non_bind, ih]
def l_markFileS.F {R : Type} (kk : Int → List (El kFile) → Option R) (a : List (El kFile)) (k_ : Int) : Option R :=
  l_markFileS.l1 (fun k_1 a1 => kk k_1 a1) fuel k_ (0 : Int) a
theorem l_markFileS.F_nat {R S : Type} (g : R → Option S) (kk : Int → List (El kFile) → Option R) (a : List (El kFile)) (k_ : Int) : l_markFileS.F (fun y0 y1 => (kk y0 y1).bind g) a k_ = (l_markFileS.F kk a k_).bind g := by
  simp only [l_markFileS.F, grd_bind, cnd_bind, bnd_bind, non_bind, ← l_markFileS.l1_nat]
def l_markFileS (a : List (El kFile)) (k_ : Int) : Option (Int × List (El kFile)) := l_markFileS.F (fun y0 y1 => some (y0, y1)) a k_
theorem l_markFileS_nat {S : Type} (g : (Int × List (El kFile)) → Option S) (a : List (El kFile)) (k_ : Int) : l_markFileS.F (fun y0 y1 => g (y0, y1)) a k_ = (l_markFileS a k_).bind g := l_markFileS.F_nat g (fun y0 y1 => some (y0, y1)) a k_
def l_markFileS.out : (Int × List (El kFile)) → CRes := fun a => ⟨encL SV.enc [.one (.int .i64)] (a.1, ()), [encL SC.enc [.own [] kFile true] (a.2, ()), encL SC.enc [] ()]⟩
def l_markFileS.ps : List PS := [.val [some (kFile, true)], .val [none]]
def l_markFileS.sA : List SA := [.v (.one (.own [] kFile true)), .v (.one (.int .i64))]
def l_markFileS.fi : FI := FIs l_markFileS.sA (Int × List (El kFile)) (fun t => l_markFileS t.1 t.2.1) l_markFileS.out l_markFileS.ps
def l_markFileS.E : Env := ⟨tt, lkF [(109, l_markText.fi)], 36, 1, [], []⟩
def l_markFileS.sh1 : SK := ⟨[.v (.one (.slo 0)), .v (.one (.int .i64)), .v (.one (.int .i64))], [.arr kFile [] true]⟩
def l_markFileS.sh1e0 : SK := ⟨[.v (.one (.int .i64))], [.arr kFile [] true]⟩
def l_markFileS.ko1 : Ex → List CastAt × List Nat
  | .nrm => ([], [])
  | .ret => ([], [])
  | .ext i => cond (Nat.beq i 0) ([], [1]) ([], [])
def l_markFileS.G1 (n : Nat) (R : Type) (t : l_markFileS.sh1.T) (K : Ex → Kp → Option R) : Option R := l_markFileS.l1 (fun y0 y1 => K (.ext 0) (SK.enc l_markFileS.sh1e0 ((y0, ()), (y1, ())))) n t.1.2.1 t.1.2.2.1 t.2.1
def l_markFileS.S1 : Sum := ⟨([], [0, 1, 5]), sumF l_markFileS.sh1 (l_markFileS.G1 fuel), l_markFileS.ko1⟩
theorem l_markFileS.ok1 (hE : EOk Tryz.prog (l_markFileS.E)) : SumOk Tryz.prog l_markFileS.E (cB (cR (cL (cR (bodyOf Tryz.f57))))) (l_markFileS.S1) := by
  have hh : HintOk Tryz.prog l_markFileS.E (cB (cB (cR (cL (cR (bodyOf Tryz.f57)))))) (.a) := HintOk.n1 (Q := True) (by kernel_rfl) trivial
  have h := loopS (kin := ([], [0, 1, 5])) (kout := l_markFileS.ko1) (sh := l_markFileS.sh1) (F := l_markFileS.G1) (ops_ok (hE.gv _)) (by kernel_rfl) hh (fun _ _ _ => rfl) (fun n R t K => by kernel_rfl) fuel
  exact HintOk.n1 (c := (cB (cR (cL (cR (bodyOf Tryz.f57)))))) (h := .s (l_markFileS.S1)) (P := Tryz.prog) (E := l_markFileS.E) (by kernel_rfl) h
theorem l_markFileS.hok (hE : EOk Tryz.prog (l_markFileS.E)) : HintOk Tryz.prog l_markFileS.E (bodyOf Tryz.f57) (.n (.a) (.n (.n (.a) (.b (.s (l_markFileS.S1)))) (.a))) := HintOk.n1 (Q := (True) ∧ (((True) ∧ (SumOk Tryz.prog l_markFileS.E (cB (cR (cL (cR (bodyOf Tryz.f57))))) (l_markFileS.S1))) ∧ (True))) (by kernel_rfl) ⟨trivial, ⟨⟨trivial, (l_markFileS.ok1 hE)⟩, trivial⟩⟩
theorem l_markFileS.hE : EOk Tryz.prog (l_markFileS.E) := EOk.of ttOk (⟨l_markText.fok, trivial⟩)
theorem l_markFileS.fok : FOk Tryz.prog 57 l_markFileS.fi :=
  fokS (E := l_markFileS.E) (wy := ⟨[[none]], [[], []], []⟩) (h := (fun gs => .n (.a) (.n (.n (.a) (.b (.s (l_markFileS.S1)))) (.a)))) (G := fun t g => l_markFileS.F (fun y0 y1 => g (y0, y1)) t.1 t.2.1) (by kernel_rfl) l_markFileS.hE Tryz.func57 (by kernel_rfl) rfl (Nat.le_refl _) (fun t => HintOk.n1 (by kernel_rfl) (l_markFileS.hok l_markFileS.hE)) (fun t g => l_markFileS_nat g t.1 t.2.1) (fun t => by kernel_rfl)
/-! loop.example_g00220_laws.markDisk -/
def l_markDisk.F {R : Type} (kk : Int → List (El kFile) → Option R) (a_Room : Int) (a_Files : List (El kFile)) (k_ : Int) : Option R :=
  (l_markFileS a_Files k_).bind fun r =>
  kk r.1 r.2
theorem l_markDisk.F_nat {R S : Type} (g : R → Option S) (kk : Int → List (El kFile) → Option R) (a_Room : Int) (a_Files : List (El kFile)) (k_ : Int) : l_markDisk.F (fun y0 y1 => (kk y0 y1).bind g) a_Room a_Files k_ = (l_markDisk.F kk a_Room a_Files k_).bind g := by
  simp only [l_markDisk.F, grd_bind, cnd_bind, bnd_bind, non_bind]
def l_markDisk (a_Room : Int) (a_Files : List (El kFile)) (k_ : Int) : Option (Int × List (El kFile)) := l_markDisk.F (fun y0 y1 => some (y0, y1)) a_Room a_Files k_
theorem l_markDisk_nat {S : Type} (g : (Int × List (El kFile)) → Option S) (a_Room : Int) (a_Files : List (El kFile)) (k_ : Int) : l_markDisk.F (fun y0 y1 => g (y0, y1)) a_Room a_Files k_ = (l_markDisk a_Room a_Files k_).bind g := l_markDisk.F_nat g (fun y0 y1 => some (y0, y1)) a_Room a_Files k_
def l_markDisk.out : (Int × List (El kFile)) → CRes := fun a => ⟨encL SV.enc [.one (.int .i64)] (a.1, ()), [encL SC.enc [.own [] kFile true] (a.2, ()), encL SC.enc [] ()]⟩
def l_markDisk.ps : List PS := [.val [none, some (kFile, true)], .val [none]]
def l_markDisk.sA : List SA := [.v (.agg [.int .i64, .own [] kFile true]), .v (.one (.int .i64))]
def l_markDisk.fi : FI := FIs l_markDisk.sA (Int × List (El kFile)) (fun t => l_markDisk t.1.1 t.1.2.1 t.2.1) l_markDisk.out l_markDisk.ps
def l_markDisk.E : Env := ⟨tt, lkF [(57, l_markFileS.fi)], 10, 1, [], []⟩
theorem l_markDisk.hok (hE : EOk Tryz.prog (l_markDisk.E)) : HintOk Tryz.prog l_markDisk.E (bodyOf Tryz.f15) (.a) := HintOk.n1 (Q := True) (by kernel_rfl) trivial
theorem l_markDisk.hE : EOk Tryz.prog (l_markDisk.E) := EOk.of ttOk (⟨l_markFileS.fok, trivial⟩)
theorem l_markDisk.fok : FOk Tryz.prog 15 l_markDisk.fi :=
  fokS (E := l_markDisk.E) (wy := ⟨[[none]], [[], []], []⟩) (h := (fun gs => .a)) (G := fun t g => l_markDisk.F (fun y0 y1 => g (y0, y1)) t.1.1 t.1.2.1 t.2.1) (by kernel_rfl) l_markDisk.hE Tryz.func15 (by kernel_rfl) rfl (Nat.le_refl _) (fun t => HintOk.n1 (by kernel_rfl) (l_markDisk.hok l_markDisk.hE)) (fun t g => l_markDisk_nat g t.1.1 t.1.2.1 t.2.1) (fun t => by kernel_rfl)
/-! loop.example_g00220_laws.heldFileS -/
def l_heldFileS.l1 {R : Type} (kke0 : Int → Option R) (kkr : Int → Option R) : Nat → List (El kFile) → Int → Int → Option R
  | 0, _, _, _ => none
  | n + 1, a, k_, i =>
    cond (decide (i < (List.length a : Int))) (
      grd (gIx i (List.length a)) <|
      (l_markText k_).bind fun r =>
      cond (!(sEq (rdE kFile a (Int.toNat i)).1 r)) (kkr (-1 : Int)) (
        grd (gIx i (List.length a)) <|
        (l_markText (IntKind.wrap .i64 (k_ + (1 : Int)))).bind fun r1 =>
        cond (!(sEq (rdE kFile a (Int.toNat i)).2.1 r1)) (kkr (-1 : Int)) (
          grd (gIx i (List.length a)) <|
          cond ((rdE kFile a (Int.toNat i)).2.2 != (IntKind.wrap .i64 ((IntKind.wrap .i64 (k_ + (1 : Int))) + (1 : Int)))) (kkr (-1 : Int)) (
            l_heldFileS.l1 kke0 kkr n a (IntKind.wrap .i64 ((IntKind.wrap .i64 ((IntKind.wrap .i64 (k_ + (1 : Int))) + (1 : Int))) + (1 : Int))) (IntKind.wrap .i64 (i + (1 : Int))))))) (kke0 k_)
theorem l_heldFileS.l1_nat {R S : Type} (g : R → Option S) (kke0 : Int → Option R) (kkr : Int → Option R) : ∀ (n : Nat) (a : List (El kFile)) (k_ : Int) (i : Int), l_heldFileS.l1 (fun y0 => (kke0 y0).bind g) (fun y0 => (kkr y0).bind g) n a k_ i = (l_heldFileS.l1 kke0 kkr n a k_ i).bind g := by
  intro n
  induction n with
  | zero => intros; rfl
  | succ n ih => intros; simp only [l_heldFileS.l1, grd_bind, cnd_bind, bnd_bind, non_bind, ih]
def l_heldFileS.F {R : Type} (kk : Int → Option R) (a : List (El kFile)) (k_ : Int) : Option R :=
  l_heldFileS.l1 (fun k_1 => kk k_1) (fun i => kk i) fuel a k_ (0 : Int)
theorem l_heldFileS.F_nat {R S : Type} (g : R → Option S) (kk : Int → Option R) (a : List (El kFile)) (k_ : Int) : l_heldFileS.F (fun y0 => (kk y0).bind g) a k_ = (l_heldFileS.F kk a k_).bind g := by
  simp only [l_heldFileS.F, grd_bind, cnd_bind, bnd_bind, non_bind, ← l_heldFileS.l1_nat]
def l_heldFileS (a : List (El kFile)) (k_ : Int) : Option Int := l_heldFileS.F (fun y0 => some y0) a k_
theorem l_heldFileS_nat {S : Type} (g : Int → Option S) (a : List (El kFile)) (k_ : Int) : l_heldFileS.F (fun y0 => g y0) a k_ = (l_heldFileS a k_).bind g := l_heldFileS.F_nat g (fun y0 => some y0) a k_
def l_heldFileS.out : Int → CRes := fun a => ⟨encL SV.enc [.one (.int .i64)] (a, ()), [encL SC.enc [] (), encL SC.enc [] ()]⟩
def l_heldFileS.ps : List PS := [.val [some (kFile, false)], .val [none]]
def l_heldFileS.sA : List SA := [.v (.one (.slv [] kFile)), .v (.one (.int .i64))]
def l_heldFileS.fi : FI := FIs l_heldFileS.sA (Int) (fun t => l_heldFileS t.1 t.2.1) l_heldFileS.out l_heldFileS.ps
def l_heldFileS.E : Env := ⟨tt, lkF [(109, l_markText.fi)], 42, 0, [], []⟩
def l_heldFileS.sh1 : SK := ⟨[.v (.one (.slv [1] kFile)), .v (.one (.int .i64)), .v (.one (.int .i64))], []⟩
def l_heldFileS.sh1e0 : SK := ⟨[.v (.one (.int .i64))], []⟩
def l_heldFileS.sh1r : SK := ⟨[.v (.one (.int .i64))], []⟩
def l_heldFileS.ko1 : Ex → List CastAt × List Nat
  | .nrm => ([], [])
  | .ret => ([], [4])
  | .ext i => cond (Nat.beq i 0) ([], [1]) ([], [])
def l_heldFileS.G1 (n : Nat) (R : Type) (t : l_heldFileS.sh1.T) (K : Ex → Kp → Option R) : Option R := l_heldFileS.l1 (fun y0 => K (.ext 0) (SK.enc l_heldFileS.sh1e0 ((y0, ()), ()))) (fun y0 => K .ret (SK.enc l_heldFileS.sh1r ((y0, ()), ()))) n t.1.1 t.1.2.1 t.1.2.2.1
def l_heldFileS.S1 : Sum := ⟨([], [0, 1, 5]), sumF l_heldFileS.sh1 (l_heldFileS.G1 fuel), l_heldFileS.ko1⟩
theorem l_heldFileS.ok1 (hE : EOk Tryz.prog (l_heldFileS.E)) : SumOk Tryz.prog l_heldFileS.E (cB (cR (cL (cR (bodyOf Tryz.f58))))) (l_heldFileS.S1) := by
  have hh : HintOk Tryz.prog l_heldFileS.E (cB (cB (cR (cL (cR (bodyOf Tryz.f58)))))) (.a) := HintOk.n1 (Q := True) (by kernel_rfl) trivial
  have h := loopS (kin := ([], [0, 1, 5])) (kout := l_heldFileS.ko1) (sh := l_heldFileS.sh1) (F := l_heldFileS.G1) (ops_ok (hE.gv _)) (by kernel_rfl) hh (fun _ _ _ => rfl) (fun n R t K => by kernel_rfl) fuel
  exact HintOk.n1 (c := (cB (cR (cL (cR (bodyOf Tryz.f58)))))) (h := .s (l_heldFileS.S1)) (P := Tryz.prog) (E := l_heldFileS.E) (by kernel_rfl) h
theorem l_heldFileS.hok (hE : EOk Tryz.prog (l_heldFileS.E)) : HintOk Tryz.prog l_heldFileS.E (bodyOf Tryz.f58) (.n (.a) (.n (.n (.a) (.b (.s (l_heldFileS.S1)))) (.a))) := HintOk.n1 (Q := (True) ∧ (((True) ∧ (SumOk Tryz.prog l_heldFileS.E (cB (cR (cL (cR (bodyOf Tryz.f58))))) (l_heldFileS.S1))) ∧ (True))) (by kernel_rfl) ⟨trivial, ⟨⟨trivial, (l_heldFileS.ok1 hE)⟩, trivial⟩⟩
theorem l_heldFileS.hE : EOk Tryz.prog (l_heldFileS.E) := EOk.of ttOk (⟨l_markText.fok, trivial⟩)
theorem l_heldFileS.fok : FOk Tryz.prog 58 l_heldFileS.fi :=
  fokS (E := l_heldFileS.E) (wy := ⟨[[none]], [[], []], []⟩) (h := (fun gs => .n (.a) (.n (.n (.a) (.b (.s (l_heldFileS.S1)))) (.a)))) (G := fun t g => l_heldFileS.F (fun y0 => g y0) t.1 t.2.1) (by kernel_rfl) l_heldFileS.hE Tryz.func58 (by kernel_rfl) rfl (Nat.le_refl _) (fun t => HintOk.n1 (by kernel_rfl) (l_heldFileS.hok l_heldFileS.hE)) (fun t g => l_heldFileS_nat g t.1 t.2.1) (fun t => by kernel_rfl)
/-! loop.example_g00220_laws.heldDisk -/
def l_heldDisk.F {R : Type} (kk : Int → Option R) (a_Room : Int) (a_Files : List (El kFile)) (k_ : Int) : Option R :=
  (l_heldFileS a_Files k_).bind fun r =>
  cond (decide (r < (0 : Int))) (kk (-1 : Int)) (kk r)
theorem l_heldDisk.F_nat {R S : Type} (g : R → Option S) (kk : Int → Option R) (a_Room : Int) (a_Files : List (El kFile)) (k_ : Int) : l_heldDisk.F (fun y0 => (kk y0).bind g) a_Room a_Files k_ = (l_heldDisk.F kk a_Room a_Files k_).bind g := by
  simp only [l_heldDisk.F, grd_bind, cnd_bind, bnd_bind, non_bind]
def l_heldDisk (a_Room : Int) (a_Files : List (El kFile)) (k_ : Int) : Option Int := l_heldDisk.F (fun y0 => some y0) a_Room a_Files k_
theorem l_heldDisk_nat {S : Type} (g : Int → Option S) (a_Room : Int) (a_Files : List (El kFile)) (k_ : Int) : l_heldDisk.F (fun y0 => g y0) a_Room a_Files k_ = (l_heldDisk a_Room a_Files k_).bind g := l_heldDisk.F_nat g (fun y0 => some y0) a_Room a_Files k_
def l_heldDisk.out : Int → CRes := fun a => ⟨encL SV.enc [.one (.int .i64)] (a, ()), [encL SC.enc [] (), encL SC.enc [] ()]⟩
def l_heldDisk.ps : List PS := [.val [none, some (kFile, false)], .val [none]]
def l_heldDisk.sA : List SA := [.v (.agg [.int .i64, .slv [] kFile]), .v (.one (.int .i64))]
def l_heldDisk.fi : FI := FIs l_heldDisk.sA (Int) (fun t => l_heldDisk t.1.1 t.1.2.1 t.2.1) l_heldDisk.out l_heldDisk.ps
def l_heldDisk.E : Env := ⟨tt, lkF [(58, l_heldFileS.fi)], 12, 0, [], []⟩
theorem l_heldDisk.hok (hE : EOk Tryz.prog (l_heldDisk.E)) : HintOk Tryz.prog l_heldDisk.E (bodyOf Tryz.f16) (.a) := HintOk.n1 (Q := True) (by kernel_rfl) trivial
theorem l_heldDisk.hE : EOk Tryz.prog (l_heldDisk.E) := EOk.of ttOk (⟨l_heldFileS.fok, trivial⟩)
theorem l_heldDisk.fok : FOk Tryz.prog 16 l_heldDisk.fi :=
  fokS (E := l_heldDisk.E) (wy := ⟨[[none]], [[], []], []⟩) (h := (fun gs => .a)) (G := fun t g => l_heldDisk.F (fun y0 => g y0) t.1.1 t.1.2.1 t.2.1) (by kernel_rfl) l_heldDisk.hE Tryz.func16 (by kernel_rfl) rfl (Nat.le_refl _) (fun t => HintOk.n1 (by kernel_rfl) (l_heldDisk.hok l_heldDisk.hE)) (fun t g => l_heldDisk_nat g t.1.1 t.1.2.1 t.2.1) (fun t => by kernel_rfl)
/-! loop.example_g00220_laws.FnExactWalForget -/
def l_FnExactWalForget.F {R : Type} (kk : Bool → Option R) (aD_Room : Int) (aD_Files : List (El kFile)) (aBelow : Int) : Option R :=
  (l_szDisk aD_Room aD_Files (1048576 : Int)).bind fun r =>
  cond (decide (r < (0 : Int))) (kk true) (
    (l_toDisk aD_Room aD_Files).bind fun r1 =>
    (s_WalForget r1.1 r1.2 aBelow).bind fun r2 =>
    (l_toDisk aD_Room aD_Files).bind fun r3 =>
    (i_WalForget r3.1 r3.2 aBelow).bind fun r4 =>
    (l_eqDisk r4.1 r4.2.1 r2.1 r2.2.1).bind fun r5 =>
    cond (!r5) (kk false) (
      cond (r4.2.2 != r2.2.2) (kk false) (
        (l_toDisk aD_Room aD_Files).bind fun r6 =>
        (l_eqDisk r3.1 r3.2 r6.1 r6.2).bind fun r7 =>
        cond (!r7) (kk false) (
          (l_markDisk r3.1 r3.2 (1 : Int)).bind fun r8 =>
          cond (decide (r8.1 < (0 : Int))) (kk false) (
            (l_eqDisk r4.1 r4.2.1 r2.1 r2.2.1).bind fun r9 =>
            cond (!r9) (kk false) (
              cond (r4.2.2 != r2.2.2) (kk false) (
                (l_markDisk r4.1 r4.2.1 (1 : Int)).bind fun r10 =>
                (l_heldDisk r4.1 r10.2 (1 : Int)).bind fun r11 =>
                cond (decide (r11 < (0 : Int))) (kk false) (
                  cond (r11 != r10.1) (kk false) (
                    (l_toDisk aD_Room aD_Files).bind fun r12 =>
                    (i_WalForget r12.1 r12.2 aBelow).bind fun r13 =>
                    (l_eqDisk r13.1 r13.2.1 r2.1 r2.2.1).bind fun r14 =>
                    cond (!r14) (kk false) (
                      cond (r13.2.2 != r2.2.2) (kk false) (
                        (l_heldDisk r4.1 r10.2 (1 : Int)).bind fun r15 =>
                        cond (decide (r15 < (0 : Int))) (kk false) (cond (r15 != r10.1) (kk false) (kk true)))))))))))))
theorem l_FnExactWalForget.F_nat {R S : Type} (g : R → Option S) (kk : Bool → Option R) (aD_Room : Int) (aD_Files : List (El kFile)) (aBelow : Int) : l_FnExactWalForget.F (fun y0 => (kk y0).bind g) aD_Room aD_Files aBelow = (l_FnExactWalForget.F kk aD_Room aD_Files aBelow).bind g := by
  simp only [l_FnExactWalForget.F, grd_bind, cnd_bind, bnd_bind, non_bind]
def l_FnExactWalForget (aD_Room : Int) (aD_Files : List (El kFile)) (aBelow : Int) : Option Bool := l_FnExactWalForget.F (fun y0 => some y0) aD_Room aD_Files aBelow
theorem l_FnExactWalForget_nat {S : Type} (g : Bool → Option S) (aD_Room : Int) (aD_Files : List (El kFile)) (aBelow : Int) : l_FnExactWalForget.F (fun y0 => g y0) aD_Room aD_Files aBelow = (l_FnExactWalForget aD_Room aD_Files aBelow).bind g := l_FnExactWalForget.F_nat g (fun y0 => some y0) aD_Room aD_Files aBelow
def l_FnExactWalForget.out : Bool → CRes := fun a => ⟨encL SV.enc [.one (.bool)] (a, ()), [encL SC.enc [] (), encL SC.enc [] ()]⟩
def l_FnExactWalForget.ps : List PS := [.val [none, some (kFile, false)], .val [none]]
def l_FnExactWalForget.sA : List SA := [.v (.agg [.int .i64, .slv [] kFile]), .v (.one (.int .i64))]
def l_FnExactWalForget.fi : FI := FIs l_FnExactWalForget.sA (Bool) (fun t => l_FnExactWalForget t.1.1 t.1.2.1 t.2.1) l_FnExactWalForget.out l_FnExactWalForget.ps
def l_FnExactWalForget.E : Env := ⟨tt, lkF [(10, l_szDisk.fi), (11, s_WalForget.fi), (12, l_toDisk.fi), (13, i_WalForget.fi), (14, l_eqDisk.fi), (15, l_markDisk.fi), (16, l_heldDisk.fi)], 101, 0, [], []⟩
theorem l_FnExactWalForget.hok (hE : EOk Tryz.prog (l_FnExactWalForget.E)) : HintOk Tryz.prog l_FnExactWalForget.E (bodyOf Tryz.f3) (.a) := HintOk.n1 (Q := True) (by kernel_rfl) trivial
theorem l_FnExactWalForget.hE : EOk Tryz.prog (l_FnExactWalForget.E) := EOk.of ttOk (⟨l_szDisk.fok, ⟨s_WalForget.fok, ⟨l_toDisk.fok, ⟨i_WalForget.fok, ⟨l_eqDisk.fok, ⟨l_markDisk.fok, ⟨l_heldDisk.fok, trivial⟩⟩⟩⟩⟩⟩⟩)
theorem l_FnExactWalForget.fok : FOk Tryz.prog 3 l_FnExactWalForget.fi :=
  fokS (E := l_FnExactWalForget.E) (wy := ⟨[[none]], [[], []], []⟩) (h := (fun gs => .a)) (G := fun t g => l_FnExactWalForget.F (fun y0 => g y0) t.1.1 t.1.2.1 t.2.1) (by kernel_rfl) l_FnExactWalForget.hE Tryz.func3 (by kernel_rfl) rfl (Nat.le_refl _) (fun t => HintOk.n1 (by kernel_rfl) (l_FnExactWalForget.hok l_FnExactWalForget.hE)) (fun t g => l_FnExactWalForget_nat g t.1.1 t.1.2.1 t.2.1) (fun t => by kernel_rfl)
end
end Go.Proofs.YtaanadbpnmcbcaaGreatDoorA
