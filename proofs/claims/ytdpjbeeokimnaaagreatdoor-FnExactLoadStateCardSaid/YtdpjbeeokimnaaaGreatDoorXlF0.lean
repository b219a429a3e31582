/-
  Functions of the program, and that the small machine's runs are these. No condition.
  Printed by wip/amp/main.py (a session's own program) out of Lean's print of the program; Lean's kernel checks it.
-/
import Derived.Test.YtdpjbeeokimnaaaGreatDoorXlT
namespace Go.Proofs.YtdpjbeeokimnaaaGreatDoorA
open Go
noncomputable section
set_option linter.unusedVariables false
set_option linter.unusedSimpArgs false
set_option maxRecDepth 100000

/-! loop.example_g00220_laws.szFile -/
def l_szFile.F {R : Type} (kk : Int → Option R) (a_Name : ByteArray) (a_Data : ByteArray) (a_Sure : Int) (left : Int) : Option R :=
  cond (decide ((IntKind.wrap .i64 (left - (ByteArray.size a_Name : Int))) < (0 : Int))) (kk (-1 : Int)) (
    cond (decide ((IntKind.wrap .i64 ((IntKind.wrap .i64 (left - (ByteArray.size a_Name : Int))) - (ByteArray.size a_Data : Int))) < (0 : Int))) (kk (-1 : Int)) (
      kk (IntKind.wrap .i64 ((IntKind.wrap .i64 (left - (ByteArray.size a_Name : Int))) - (ByteArray.size a_Data : Int)))))
theorem l_szFile.F_nat {R S : Type} (g : R → Option S) (kk : Int → Option R) (a_Name : ByteArray) (a_Data : ByteArray) (a_Sure : Int) (left : Int) : l_szFile.F (fun y0 => (kk y0).bind g) a_Name a_Data a_Sure left = (l_szFile.F kk a_Name a_Data a_Sure left).bind g := by
  simp only [l_szFile.F, grd_bind, cnd_bind, bnd_bind, non_bind]
def l_szFile (a_Name : ByteArray) (a_Data : ByteArray) (a_Sure : Int) (left : Int) : Option Int := l_szFile.F (fun y0 => some y0) a_Name a_Data a_Sure left
theorem l_szFile_nat {S : Type} (g : Int → Option S) (a_Name : ByteArray) (a_Data : ByteArray) (a_Sure : Int) (left : Int) : l_szFile.F (fun y0 => g y0) a_Name a_Data a_Sure left = (l_szFile a_Name a_Data a_Sure left).bind g := l_szFile.F_nat g (fun y0 => some y0) a_Name a_Data a_Sure left
def l_szFile.out : Int → CRes := fun a => ⟨encL SV.enc [.one (.int .i64)] (a, ()), [encL SC.enc [] (), encL SC.enc [] ()]⟩
def l_szFile.ps : List PS := [.val [none, none, none], .val [none]]
def l_szFile.sA : List SA := [.v (.agg [.str, .str, .int .i64]), .v (.one (.int .i64))]
def l_szFile.fi : FI := FIs l_szFile.sA (Int) (fun t => l_szFile t.1.1 t.1.2.1 t.1.2.2.1 t.2.1) l_szFile.out l_szFile.ps
def l_szFile.E : Env := ⟨tt, lkF [], 20, 0, [], []⟩
theorem l_szFile.hok (hE : EOk Tryz.prog (l_szFile.E)) : HintOk Tryz.prog l_szFile.E (bodyOf Tryz.f86) (.a) := HintOk.n1 (Q := True) (by kernel_rfl) trivial
theorem l_szFile.hE : EOk Tryz.prog (l_szFile.E) := EOk.of ttOk (trivial)
theorem l_szFile.fok : FOk Tryz.prog 86 l_szFile.fi :=
  fokS (E := l_szFile.E) (wy := ⟨[[none]], [[], []], []⟩) (h := (fun gs => .a)) (G := fun t g => l_szFile.F (fun y0 => g y0) t.1.1 t.1.2.1 t.1.2.2.1 t.2.1) (by kernel_rfl) l_szFile.hE Tryz.func86 (by kernel_rfl) rfl (Nat.le_refl _) (fun t => HintOk.n1 (by kernel_rfl) (l_szFile.hok l_szFile.hE)) (fun t g => l_szFile_nat g t.1.1 t.1.2.1 t.1.2.2.1 t.2.1) (fun t => by kernel_rfl)
/-! loop.example_g00220_laws.szFileS -/
def l_szFileS.l1 {R : Type} (kke0 : Int → Option R) (kkr : Int → Option R) : Nat → List (El kFile) → Int → Int → Option R
  | 0, _, _, _ => none
  | n + 1, a, left, i =>
    cond (decide (i < (List.length a : Int))) (
      grd (gIx i (List.length a)) <|
      (l_szFile ((rdE kFile a (Int.toNat i)).1) ((rdE kFile a (Int.toNat i)).2.1) ((rdE kFile a (Int.toNat i)).2.2) left).bind fun r =>
      cond (decide (r < (0 : Int))) (kkr (-1 : Int)) (l_szFileS.l1 kke0 kkr n a r (IntKind.wrap .i64 (i + (1 : Int))))) (kke0 left)
theorem l_szFileS.l1_nat {R S : Type} (g : R → Option S) (kke0 : Int → Option R) (kkr : Int → Option R) : ∀ (n : Nat) (a : List (El kFile)) (left : Int) (i : Int), l_szFileS.l1 (fun y0 => (kke0 y0).bind g) (fun y0 => (kkr y0).bind g) n a left i = (l_szFileS.l1 kke0 kkr n a left i).bind g := by
  intro n
  induction n with
  | zero => intros; rfl
  | succ n ih => intros; simp only [l_szFileS.l1, grd_bind, cnd_bind, bnd_bind, non_bind, ih]
def l_szFileS.F {R : Type} (kk : Int → Option R) (a : List (El kFile)) (left : Int) : Option R :=
  cond (decide ((IntKind.wrap .i64 (left - (List.length a : Int))) < (0 : Int))) (kk (-1 : Int)) (
    l_szFileS.l1 (fun left1 => kk left1) (fun i => kk i) fuel a (IntKind.wrap .i64 (left - (List.length a : Int))) (0 : Int))
theorem l_szFileS.F_nat {R S : Type} (g : R → Option S) (kk : Int → Option R) (a : List (El kFile)) (left : Int) : l_szFileS.F (fun y0 => (kk y0).bind g) a left = (l_szFileS.F kk a left).bind g := by
  simp only [l_szFileS.F, grd_bind, cnd_bind, bnd_bind, non_bind, ← l_szFileS.l1_nat]
def l_szFileS (a : List (El kFile)) (left : Int) : Option Int := l_szFileS.F (fun y0 => some y0) a left
theorem l_szFileS_nat {S : Type} (g : Int → Option S) (a : List (El kFile)) (left : Int) : l_szFileS.F (fun y0 => g y0) a left = (l_szFileS a left).bind g := l_szFileS.F_nat g (fun y0 => some y0) a left
def l_szFileS.out : Int → CRes := fun a => ⟨encL SV.enc [.one (.int .i64)] (a, ()), [encL SC.enc [] (), encL SC.enc [] ()]⟩
def l_szFileS.ps : List PS := [.val [some (kFile, false)], .val [none]]
def l_szFileS.sA : List SA := [.v (.one (.slv [] kFile)), .v (.one (.int .i64))]
def l_szFileS.fi : FI := FIs l_szFileS.sA (Int) (fun t => l_szFileS t.1 t.2.1) l_szFileS.out l_szFileS.ps
def l_szFileS.E : Env := ⟨tt, lkF [(86, l_szFile.fi)], 27, 0, [], []⟩
def l_szFileS.sh1 : SK := ⟨[.v (.one (.slv [1] kFile)), .v (.one (.int .i64)), .v (.one (.int .i64))], []⟩
def l_szFileS.sh1e0 : SK := ⟨[.v (.one (.int .i64))], []⟩
def l_szFileS.sh1r : SK := ⟨[.v (.one (.int .i64))], []⟩
def l_szFileS.ko1 : Ex → List CastAt × List Nat
  | .nrm => ([], [])
  | .ret => ([], [4])
  | .ext i => cond (Nat.beq i 0) ([], [1]) ([], [])
def l_szFileS.G1 (n : Nat) (R : Type) (t : l_szFileS.sh1.T) (K : Ex → Kp → Option R) : Option R := l_szFileS.l1 (fun y0 => K (.ext 0) (SK.enc l_szFileS.sh1e0 ((y0, ()), ()))) (fun y0 => K .ret (SK.enc l_szFileS.sh1r ((y0, ()), ()))) n t.1.1 t.1.2.1 t.1.2.2.1
def l_szFileS.S1 : Sum := ⟨([], [0, 1, 5]), sumF l_szFileS.sh1 (l_szFileS.G1 fuel), l_szFileS.ko1⟩
theorem l_szFileS.ok1 (hE : EOk Tryz.prog (l_szFileS.E)) : SumOk Tryz.prog l_szFileS.E (cB (cR (cL (cR (cR (cR (bodyOf Tryz.f42))))))) (l_szFileS.S1) := by
  have hh : HintOk Tryz.prog l_szFileS.E (cB (cB (cR (cL (cR (cR (cR (bodyOf Tryz.f42)))))))) (.a) := HintOk.n1 (Q := True) (by kernel_rfl) trivial
  have h := loopS (kin := ([], [0, 1, 5])) (kout := l_szFileS.ko1) (sh := l_szFileS.sh1) (F := l_szFileS.G1) (ops_ok (hE.gv _)) (by kernel_rfl) hh (fun _ _ _ => rfl) (fun n R t K => by kernel_rfl) fuel
  exact HintOk.n1 (c := (cB (cR (cL (cR (cR (cR (bodyOf Tryz.f42)))))))) (h := .s (l_szFileS.S1)) (P := Tryz.prog) (E := l_szFileS.E) (by kernel_rfl) h
theorem l_szFileS.hok (hE : EOk Tryz.prog (l_szFileS.E)) : HintOk Tryz.prog l_szFileS.E (bodyOf Tryz.f42) (.n (.a) (.n (.a) (.n (.a) (.n (.n (.a) (.b (.s (l_szFileS.S1)))) (.a))))) := HintOk.n1 (Q := (True) ∧ ((True) ∧ ((True) ∧ (((True) ∧ (SumOk Tryz.prog l_szFileS.E (cB (cR (cL (cR (cR (cR (bodyOf Tryz.f42))))))) (l_szFileS.S1))) ∧ (True))))) (by kernel_rfl) ⟨trivial, ⟨trivial, ⟨trivial, ⟨⟨trivial, (l_szFileS.ok1 hE)⟩, trivial⟩⟩⟩⟩
theorem l_szFileS.hE : EOk Tryz.prog (l_szFileS.E) := EOk.of ttOk (⟨l_szFile.fok, trivial⟩)
theorem l_szFileS.fok : FOk Tryz.prog 42 l_szFileS.fi :=
  fokS (E := l_szFileS.E) (wy := ⟨[[none]], [[], []], []⟩) (h := (fun gs => .n (.a) (.n (.a) (.n (.a) (.n (.n (.a) (.b (.s (l_szFileS.S1)))) (.a)))))) (G := fun t g => l_szFileS.F (fun y0 => g y0) t.1 t.2.1) (by kernel_rfl) l_szFileS.hE Tryz.func42 (by kernel_rfl) rfl (Nat.le_refl _) (fun t => HintOk.n1 (by kernel_rfl) (l_szFileS.hok l_szFileS.hE)) (fun t g => l_szFileS_nat g t.1 t.2.1) (fun t => by kernel_rfl)
/-! loop.example_g00220_laws.szDisk -/
def l_szDisk.F {R : Type} (kk : Int → Option R) (a_Room : Int) (a_Files : List (El kFile)) (left : Int) : Option R :=
  (l_szFileS a_Files left).bind fun r =>
  cond (decide (r < (0 : Int))) (kk (-1 : Int)) (kk r)
theorem l_szDisk.F_nat {R S : Type} (g : R → Option S) (kk : Int → Option R) (a_Room : Int) (a_Files : List (El kFile)) (left : Int) : l_szDisk.F (fun y0 => (kk y0).bind g) a_Room a_Files left = (l_szDisk.F kk a_Room a_Files left).bind g := by
  simp only [l_szDisk.F, grd_bind, cnd_bind, bnd_bind, non_bind]
def l_szDisk (a_Room : Int) (a_Files : List (El kFile)) (left : Int) : Option Int := l_szDisk.F (fun y0 => some y0) a_Room a_Files left
theorem l_szDisk_nat {S : Type} (g : Int → Option S) (a_Room : Int) (a_Files : List (El kFile)) (left : Int) : l_szDisk.F (fun y0 => g y0) a_Room a_Files left = (l_szDisk a_Room a_Files left).bind g := l_szDisk.F_nat g (fun y0 => some y0) a_Room a_Files left
def l_szDisk.out : Int → CRes := fun a => ⟨encL SV.enc [.one (.int .i64)] (a, ()), [encL SC.enc [] (), encL SC.enc [] ()]⟩
def l_szDisk.ps : List PS := [.val [none, some (kFile, false)], .val [none]]
def l_szDisk.sA : List SA := [.v (.agg [.int .i64, .slv [] kFile]), .v (.one (.int .i64))]
def l_szDisk.fi : FI := FIs l_szDisk.sA (Int) (fun t => l_szDisk t.1.1 t.1.2.1 t.2.1) l_szDisk.out l_szDisk.ps
def l_szDisk.E : Env := ⟨tt, lkF [(42, l_szFileS.fi)], 12, 0, [], []⟩
theorem l_szDisk.hok (hE : EOk Tryz.prog (l_szDisk.E)) : HintOk Tryz.prog l_szDisk.E (bodyOf Tryz.f7) (.a) := HintOk.n1 (Q := True) (by kernel_rfl) trivial
theorem l_szDisk.hE : EOk Tryz.prog (l_szDisk.E) := EOk.of ttOk (⟨l_szFileS.fok, trivial⟩)
theorem l_szDisk.fok : FOk Tryz.prog 7 l_szDisk.fi :=
  fokS (E := l_szDisk.E) (wy := ⟨[[none]], [[], []], []⟩) (h := (fun gs => .a)) (G := fun t g => l_szDisk.F (fun y0 => g y0) t.1.1 t.1.2.1 t.2.1) (by kernel_rfl) l_szDisk.hE Tryz.func7 (by kernel_rfl) rfl (Nat.le_refl _) (fun t => HintOk.n1 (by kernel_rfl) (l_szDisk.hok l_szDisk.hE)) (fun t g => l_szDisk_nat g t.1.1 t.1.2.1 t.2.1) (fun t => by kernel_rfl)
/-! loop.example_g00220_spec.l01In -/
def s_l01In.F {R : Type} (kk : Bool → Option R) (n_ : Int) (low : Int) (high : Int) : Option R :=
  cond (decide (n_ ≥ low)) (kk (decide (n_ ≤ high))) (kk false)
theorem s_l01In.F_nat {R S : Type} (g : R → Option S) (kk : Bool → Option R) (n_ : Int) (low : Int) (high : Int) : s_l01In.F (fun y0 => (kk y0).bind g) n_ low high = (s_l01In.F kk n_ low high).bind g := by
  simp only [s_l01In.F, grd_bind, cnd_bind, bnd_bind, non_bind]
def s_l01In (n_ : Int) (low : Int) (high : Int) : Option Bool := s_l01In.F (fun y0 => some y0) n_ low high
theorem s_l01In_nat {S : Type} (g : Bool → Option S) (n_ : Int) (low : Int) (high : Int) : s_l01In.F (fun y0 => g y0) n_ low high = (s_l01In n_ low high).bind g := s_l01In.F_nat g (fun y0 => some y0) n_ low high
def s_l01In.out : Bool → CRes := fun a => ⟨encL SV.enc [.one (.bool)] (a, ()), [encL SC.enc [] (), encL SC.enc [] (), encL SC.enc [] ()]⟩
def s_l01In.ps : List PS := [.val [none], .val [none], .val [none]]
def s_l01In.sA : List SA := [.v (.one (.int .i64)), .v (.one (.int .i64)), .v (.one (.int .i64))]
def s_l01In.fi : FI := FIs s_l01In.sA (Bool) (fun t => s_l01In t.1 t.2.1 t.2.2.1) s_l01In.out s_l01In.ps
def s_l01In.E : Env := ⟨tt, lkF [], 15, 0, [], []⟩
theorem s_l01In.hok (hE : EOk Tryz.prog (s_l01In.E)) : HintOk Tryz.prog s_l01In.E (bodyOf Tryz.f63) (.a) := HintOk.n1 (Q := True) (by kernel_rfl) trivial
theorem s_l01In.hE : EOk Tryz.prog (s_l01In.E) := EOk.of ttOk (trivial)
theorem s_l01In.fok : FOk Tryz.prog 63 s_l01In.fi :=
  fokS (E := s_l01In.E) (wy := ⟨[[none]], [[], [], []], []⟩) (h := (fun gs => .a)) (G := fun t g => s_l01In.F (fun y0 => g y0) t.1 t.2.1 t.2.2.1) (by kernel_rfl) s_l01In.hE Tryz.func63 (by kernel_rfl) rfl (Nat.le_refl _) (fun t => HintOk.n1 (by kernel_rfl) (s_l01In.hok s_l01In.hE)) (fun t g => s_l01In_nat g t.1 t.2.1 t.2.2.1) (fun t => by kernel_rfl)
/-! loop.example_g00220_spec.l00Digit -/
def s_l00Digit.F {R : Type} (kk : Bool → Option R) (c : Int) : Option R :=
  cond (decide (c ≥ (48 : Int))) (kk (decide (c ≤ (57 : Int)))) (kk false)
theorem s_l00Digit.F_nat {R S : Type} (g : R → Option S) (kk : Bool → Option R) (c : Int) : s_l00Digit.F (fun y0 => (kk y0).bind g) c = (s_l00Digit.F kk c).bind g := by
  simp only [s_l00Digit.F, grd_bind, cnd_bind, bnd_bind, non_bind]
def s_l00Digit (c : Int) : Option Bool := s_l00Digit.F (fun y0 => some y0) c
theorem s_l00Digit_nat {S : Type} (g : Bool → Option S) (c : Int) : s_l00Digit.F (fun y0 => g y0) c = (s_l00Digit c).bind g := s_l00Digit.F_nat g (fun y0 => some y0) c
def s_l00Digit.out : Bool → CRes := fun a => ⟨encL SV.enc [.one (.bool)] (a, ()), [encL SC.enc [] ()]⟩
def s_l00Digit.ps : List PS := [.val [none]]
def s_l00Digit.sA : List SA := [.v (.one (.int .u8))]
def s_l00Digit.fi : FI := FIs s_l00Digit.sA (Bool) (fun t => s_l00Digit t.1) s_l00Digit.out s_l00Digit.ps
def s_l00Digit.E : Env := ⟨tt, lkF [], 9, 0, [], []⟩
theorem s_l00Digit.hok (hE : EOk Tryz.prog (s_l00Digit.E)) : HintOk Tryz.prog s_l00Digit.E (bodyOf Tryz.f206) (.a) := HintOk.n1 (Q := True) (by kernel_rfl) trivial
theorem s_l00Digit.hE : EOk Tryz.prog (s_l00Digit.E) := EOk.of ttOk (trivial)
theorem s_l00Digit.fok : FOk Tryz.prog 206 s_l00Digit.fi :=
  fokS (E := s_l00Digit.E) (wy := ⟨[[none]], [[]], []⟩) (h := (fun gs => .a)) (G := fun t g => s_l00Digit.F (fun y0 => g y0) t.1) (by kernel_rfl) s_l00Digit.hE Tryz.func206 (by kernel_rfl) rfl (Nat.le_refl _) (fun t => HintOk.n1 (by kernel_rfl) (s_l00Digit.hok s_l00Digit.hE)) (fun t g => s_l00Digit_nat g t.1) (fun t => by kernel_rfl)
/-! loop.example_g00220_spec.l00Letter -/
def s_l00Letter.F {R : Type} (kk : Bool → Option R) (c : Int) : Option R :=
  cond (decide (c ≥ (97 : Int))) (
    cond (decide (c ≤ (122 : Int))) (kk true) (
      cond (decide (c ≥ (65 : Int))) (cond (decide (c ≤ (90 : Int))) (kk true) (kk (c == (95 : Int)))) (kk (c == (95 : Int))))) (
    cond (decide (c ≥ (65 : Int))) (cond (decide (c ≤ (90 : Int))) (kk true) (kk (c == (95 : Int)))) (kk (c == (95 : Int))))
theorem s_l00Letter.F_nat {R S : Type} (g : R → Option S) (kk : Bool → Option R) (c : Int) : s_l00Letter.F (fun y0 => (kk y0).bind g) c = (s_l00Letter.F kk c).bind g := by
  simp only [s_l00Letter.F, grd_bind, cnd_bind, bnd_bind, non_bind]
def s_l00Letter (c : Int) : Option Bool := s_l00Letter.F (fun y0 => some y0) c
theorem s_l00Letter_nat {S : Type} (g : Bool → Option S) (c : Int) : s_l00Letter.F (fun y0 => g y0) c = (s_l00Letter c).bind g := s_l00Letter.F_nat g (fun y0 => some y0) c
def s_l00Letter.out : Bool → CRes := fun a => ⟨encL SV.enc [.one (.bool)] (a, ()), [encL SC.enc [] ()]⟩
def s_l00Letter.ps : List PS := [.val [none]]
def s_l00Letter.sA : List SA := [.v (.one (.int .u8))]
def s_l00Letter.fi : FI := FIs s_l00Letter.sA (Bool) (fun t => s_l00Letter t.1) s_l00Letter.out s_l00Letter.ps
def s_l00Letter.E : Env := ⟨tt, lkF [], 21, 0, [], []⟩
theorem s_l00Letter.hok (hE : EOk Tryz.prog (s_l00Letter.E)) : HintOk Tryz.prog s_l00Letter.E (bodyOf Tryz.f207) (.a) := HintOk.n1 (Q := True) (by kernel_rfl) trivial
theorem s_l00Letter.hE : EOk Tryz.prog (s_l00Letter.E) := EOk.of ttOk (trivial)
theorem s_l00Letter.fok : FOk Tryz.prog 207 s_l00Letter.fi :=
  fokS (E := s_l00Letter.E) (wy := ⟨[[none]], [[]], []⟩) (h := (fun gs => .a)) (G := fun t g => s_l00Letter.F (fun y0 => g y0) t.1) (by kernel_rfl) s_l00Letter.hE Tryz.func207 (by kernel_rfl) rfl (Nat.le_refl _) (fun t => HintOk.n1 (by kernel_rfl) (s_l00Letter.hok s_l00Letter.hE)) (fun t g => s_l00Letter_nat g t.1) (fun t => by kernel_rfl)
/-! loop.example_g00220_spec.l00Word -/
def s_l00Word.l1 {R : Type} (kke0 : Option R) (kkr : Bool → Option R) : Nat → ByteArray → Int → Option R
  | 0, _, _ => none
  | n + 1, t_, i =>
    cond (decide (i < (ByteArray.size t_ : Int))) (
      grd (gIx i (ByteArray.size t_)) <|
      (s_l00Letter (byteAt t_ i)).bind fun r =>
      cond (!r) (
        grd (gIx i (ByteArray.size t_)) <|
        (s_l00Digit (byteAt t_ i)).bind fun r1 =>
        cond (!r1) (kkr false) (s_l00Word.l1 kke0 kkr n t_ (IntKind.wrap .i64 (i + (1 : Int))))) (s_l00Word.l1 kke0 kkr n t_ (IntKind.wrap .i64 (i + (1 : Int))))) (kke0)
theorem s_l00Word.l1_nat {R S : Type} (g : R → Option S) (kke0 : Option R) (kkr : Bool → Option R) : ∀ (n : Nat) (t_ : ByteArray) (i : Int), s_l00Word.l1 (kke0.bind g) (fun y0 => (kkr y0).bind g) n t_ i = (s_l00Word.l1 kke0 kkr n t_ i).bind g := by
  intro n
  induction n with
  | zero => intros; rfl
  | succ n ih => intros; simp only [s_l00Word.l1, grd_bind, cnd_bind, bnd_bind, non_bind, ih]
def s_l00Word.F {R : Type} (kk : Bool → Option R) (t_ : ByteArray) : Option R :=
  cond (decide ((ByteArray.size t_ : Int) < (1 : Int))) (kk false) (
    cond (decide ((ByteArray.size t_ : Int) > (40 : Int))) (kk false) (
      grd (gIx (0 : Int) (ByteArray.size t_)) <|
      (s_l00Letter (byteAt t_ (0 : Int))).bind fun r =>
      cond (!r) (kk false) (s_l00Word.l1 (kk true) (fun b => kk b) fuel t_ (1 : Int))))
theorem s_l00Word.F_nat {R S : Type} (g : R → Option S) (kk : Bool → Option R) (t_ : ByteArray) : s_l00Word.F (fun y0 => (kk y0).bind g) t_ = (s_l00Word.F kk t_).bind g := by
  simp only [s_l00Word.F, grd_bind, cnd_bind, bnd_bind, non_bind, ← s_l00Word.l1_nat]
def s_l00Word (t_ : ByteArray) : Option Bool := s_l00Word.F (fun y0 => some y0) t_
theorem s_l00Word_nat {S : Type} (g : Bool → Option S) (t_ : ByteArray) : s_l00Word.F (fun y0 => g y0) t_ = (s_l00Word t_).bind g := s_l00Word.F_nat g (fun y0 => some y0) t_
def s_l00Word.out : Bool → CRes := fun a => ⟨encL SV.enc [.one (.bool)] (a, ()), [encL SC.enc [] ()]⟩
def s_l00Word.ps : List PS := [.val [none]]
def s_l00Word.sA : List SA := [.v (.one (.str))]
def s_l00Word.fi : FI := FIs s_l00Word.sA (Bool) (fun t => s_l00Word t.1) s_l00Word.out s_l00Word.ps
def s_l00Word.E : Env := ⟨tt, lkF [(206, s_l00Digit.fi), (207, s_l00Letter.fi)], 36, 0, [], []⟩
def s_l00Word.sh1 : SK := ⟨[.v (.one (.str)), .v (.one (.int .i64))], []⟩
def s_l00Word.sh1e0 : SK := ⟨[], []⟩
def s_l00Word.sh1r : SK := ⟨[.v (.one (.bool))], []⟩
def s_l00Word.ko1 : Ex → List CastAt × List Nat
  | .nrm => ([], [])
  | .ret => ([], [2])
  | .ext i => cond (Nat.beq i 0) ([], []) ([], [])
def s_l00Word.G1 (n : Nat) (R : Type) (t : s_l00Word.sh1.T) (K : Ex → Kp → Option R) : Option R := s_l00Word.l1 (K (.ext 0) (SK.enc s_l00Word.sh1e0 ((), ()))) (fun y0 => K .ret (SK.enc s_l00Word.sh1r ((y0, ()), ()))) n t.1.1 t.1.2.1
def s_l00Word.S1 : Sum := ⟨([], [0, 3]), sumF s_l00Word.sh1 (s_l00Word.G1 fuel), s_l00Word.ko1⟩
theorem s_l00Word.ok1 (hE : EOk Tryz.prog (s_l00Word.E)) : SumOk Tryz.prog s_l00Word.E (cB (cR (cL (cR (cR (bodyOf Tryz.f178)))))) (s_l00Word.S1) := by
  have hh : HintOk Tryz.prog s_l00Word.E (cB (cB (cR (cL (cR (cR (bodyOf Tryz.f178))))))) (.a) := HintOk.n1 (Q := True) (by kernel_rfl) trivial
  have h := loopS (kin := ([], [0, 3])) (kout := s_l00Word.ko1) (sh := s_l00Word.sh1) (F := s_l00Word.G1) (ops_ok (hE.gv _)) (by kernel_rfl) hh (fun _ _ _ => rfl) (fun n R t K => by kernel_rfl) fuel
  exact HintOk.n1 (c := (cB (cR (cL (cR (cR (bodyOf Tryz.f178))))))) (h := .s (s_l00Word.S1)) (P := Tryz.prog) (E := s_l00Word.E) (by kernel_rfl) h
theorem s_l00Word.hok (hE : EOk Tryz.prog (s_l00Word.E)) : HintOk Tryz.prog s_l00Word.E (bodyOf Tryz.f178) (.n (.a) (.n (.a) (.n (.n (.a) (.b (.s (s_l00Word.S1)))) (.a)))) := HintOk.n1 (Q := (True) ∧ ((True) ∧ (((True) ∧ (SumOk Tryz.prog s_l00Word.E (cB (cR (cL (cR (cR (bodyOf Tryz.f178)))))) (s_l00Word.S1))) ∧ (True)))) (by kernel_rfl) ⟨trivial, ⟨trivial, ⟨⟨trivial, (s_l00Word.ok1 hE)⟩, trivial⟩⟩⟩
theorem s_l00Word.hE : EOk Tryz.prog (s_l00Word.E) := EOk.of ttOk (⟨s_l00Digit.fok, ⟨s_l00Letter.fok, trivial⟩⟩)
theorem s_l00Word.fok : FOk Tryz.prog 178 s_l00Word.fi :=
  fokS (E := s_l00Word.E) (wy := ⟨[[none]], [[]], []⟩) (h := (fun gs => .n (.a) (.n (.a) (.n (.n (.a) (.b (.s (s_l00Word.S1)))) (.a))))) (G := fun t g => s_l00Word.F (fun y0 => g y0) t.1) (by kernel_rfl) s_l00Word.hE Tryz.func178 (by kernel_rfl) rfl (Nat.le_refl _) (fun t => HintOk.n1 (by kernel_rfl) (s_l00Word.hok s_l00Word.hE)) (fun t g => s_l00Word_nat g t.1) (fun t => by kernel_rfl)
/-! loop.example_g00220_spec.NameOK -/
def s_NameOK.F {R : Type} (kk : Bool → Option R) (t_ : ByteArray) : Option R :=
  (s_l00Word t_).bind fun r =>
  kk r
theorem s_NameOK.F_nat {R S : Type} (g : R → Option S) (kk : Bool → Option R) (t_ : ByteArray) : s_NameOK.F (fun y0 => (kk y0).bind g) t_ = (s_NameOK.F kk t_).bind g := by
  simp only [s_NameOK.F, grd_bind, cnd_bind, bnd_bind, non_bind]
def s_NameOK (t_ : ByteArray) : Option Bool := s_NameOK.F (fun y0 => some y0) t_
theorem s_NameOK_nat {S : Type} (g : Bool → Option S) (t_ : ByteArray) : s_NameOK.F (fun y0 => g y0) t_ = (s_NameOK t_).bind g := s_NameOK.F_nat g (fun y0 => some y0) t_
def s_NameOK.out : Bool → CRes := fun a => ⟨encL SV.enc [.one (.bool)] (a, ()), [encL SC.enc [] ()]⟩
def s_NameOK.ps : List PS := [.val [none]]
def s_NameOK.sA : List SA := [.v (.one (.str))]
def s_NameOK.fi : FI := FIs s_NameOK.sA (Bool) (fun t => s_NameOK t.1) s_NameOK.out s_NameOK.ps
def s_NameOK.E : Env := ⟨tt, lkF [(178, s_l00Word.fi)], 5, 0, [], []⟩
theorem s_NameOK.hok (hE : EOk Tryz.prog (s_NameOK.E)) : HintOk Tryz.prog s_NameOK.E (bodyOf Tryz.f133) (.a) := HintOk.n1 (Q := True) (by kernel_rfl) trivial
theorem s_NameOK.hE : EOk Tryz.prog (s_NameOK.E) := EOk.of ttOk (⟨s_l00Word.fok, trivial⟩)
theorem s_NameOK.fok : FOk Tryz.prog 133 s_NameOK.fi :=
  fokS (E := s_NameOK.E) (wy := ⟨[[none]], [[]], []⟩) (h := (fun gs => .a)) (G := fun t g => s_NameOK.F (fun y0 => g y0) t.1) (by kernel_rfl) s_NameOK.hE Tryz.func133 (by kernel_rfl) rfl (Nat.le_refl _) (fun t => HintOk.n1 (by kernel_rfl) (s_NameOK.hok s_NameOK.hE)) (fun t g => s_NameOK_nat g t.1) (fun t => by kernel_rfl)
/-! loop.example_g00220_spec.l03Used -/
def s_l03Used.l1 {R : Type} (kke0 : Int → Option R) : Nat → Int → Int → Int → List (El kFile) → Option R
  | 0, _, _, _, _ => none
  | n + 1, n_, i, d, d1 =>
    cond (decide (i < (List.length d1 : Int))) (
      grd (gIx i (List.length d1)) <|
      s_l03Used.l1 kke0 n (IntKind.wrap .i64 (n_ + (ByteArray.size (rdE kFile d1 (Int.toNat i)).2.1 : Int))) (IntKind.wrap .i64 (i + (1 : Int))) d d1) (kke0 n_)
theorem s_l03Used.l1_nat {R S : Type} (g : R → Option S) (kke0 : Int → Option R) : ∀ (n : Nat) (n_ : Int) (i : Int) (d : Int) (d1 : List (El kFile)), s_l03Used.l1 (fun y0 => (kke0 y0).bind g) n n_ i d d1 = (s_l03Used.l1 kke0 n n_ i d d1).bind g := by
  intro n
  induction n with
  | zero => intros; rfl
  | succ n ih => intros; simp only [s_l03Used.l1, grd_bind, cnd_bind, bnd_bind, non_bind, ih]
def s_l03Used.F {R : Type} (kk : Int → Option R) (d_Room : Int) (d_Files : List (El kFile)) : Option R :=
  s_l03Used.l1 (fun n_ => kk n_) fuel (0 : Int) (0 : Int) d_Room d_Files
theorem s_l03Used.F_nat {R S : Type} (g : R → Option S) (kk : Int → Option R) (d_Room : Int) (d_Files : List (El kFile)) : s_l03Used.F (fun y0 => (kk y0).bind g) d_Room d_Files = (s_l03Used.F kk d_Room d_Files).bind g := by
  simp only [s_l03Used.F, grd_bind, cnd_bind, bnd_bind, non_bind, ← s_l03Used.l1_nat]
def s_l03Used (d_Room : Int) (d_Files : List (El kFile)) : Option Int := s_l03Used.F (fun y0 => some y0) d_Room d_Files
theorem s_l03Used_nat {S : Type} (g : Int → Option S) (d_Room : Int) (d_Files : List (El kFile)) : s_l03Used.F (fun y0 => g y0) d_Room d_Files = (s_l03Used d_Room d_Files).bind g := s_l03Used.F_nat g (fun y0 => some y0) d_Room d_Files
def s_l03Used.out : Int → CRes := fun a => ⟨encL SV.enc [.one (.int .i64)] (a, ()), [encL SC.enc [] ()]⟩
def s_l03Used.ps : List PS := [.val [none, some (kFile, false)]]
def s_l03Used.sA : List SA := [.v (.agg [.int .i64, .slv [] kFile])]
def s_l03Used.fi : FI := FIs s_l03Used.sA (Int) (fun t => s_l03Used t.1.1 t.1.2.1) s_l03Used.out s_l03Used.ps
def s_l03Used.E : Env := ⟨tt, lkF [], 22, 0, [], []⟩
def s_l03Used.sh1 : SK := ⟨[.v (.one (.bptr 0 0)), .v (.one (.int .i64)), .v (.one (.int .i64))], [.box [.int .i64, .slv [1] kFile]]⟩
def s_l03Used.sh1e0 : SK := ⟨[.v (.one (.int .i64))], []⟩
def s_l03Used.ko1 : Ex → List CastAt × List Nat
  | .nrm => ([], [])
  | .ret => ([], [])
  | .ext i => cond (Nat.beq i 0) ([], [3]) ([], [])
def s_l03Used.G1 (n : Nat) (R : Type) (t : s_l03Used.sh1.T) (K : Ex → Kp → Option R) : Option R := s_l03Used.l1 (fun y0 => K (.ext 0) (SK.enc s_l03Used.sh1e0 ((y0, ()), ()))) n t.1.2.1 t.1.2.2.1 t.2.1.1 t.2.1.2.1
def s_l03Used.S1 : Sum := ⟨([], [1, 3, 4]), sumF s_l03Used.sh1 (s_l03Used.G1 fuel), s_l03Used.ko1⟩
theorem s_l03Used.ok1 (hE : EOk Tryz.prog (s_l03Used.E)) : SumOk Tryz.prog s_l03Used.E (cB (cR (cL (cR (cR (bodyOf Tryz.f134)))))) (s_l03Used.S1) := by
  have hh : HintOk Tryz.prog s_l03Used.E (cB (cB (cR (cL (cR (cR (bodyOf Tryz.f134))))))) (.a) := HintOk.n1 (Q := True) (by kernel_rfl) trivial
  have h := loopS (kin := ([], [1, 3, 4])) (kout := s_l03Used.ko1) (sh := s_l03Used.sh1) (F := s_l03Used.G1) (ops_ok (hE.gv _)) (by kernel_rfl) hh (fun _ _ _ => rfl) (fun n R t K => by kernel_rfl) fuel
  exact HintOk.n1 (c := (cB (cR (cL (cR (cR (bodyOf Tryz.f134))))))) (h := .s (s_l03Used.S1)) (P := Tryz.prog) (E := s_l03Used.E) (by kernel_rfl) h
theorem s_l03Used.hok (hE : EOk Tryz.prog (s_l03Used.E)) : HintOk Tryz.prog s_l03Used.E (bodyOf Tryz.f134) (.n (.a) (.n (.a) (.n (.n (.a) (.b (.s (s_l03Used.S1)))) (.a)))) := HintOk.n1 (Q := (True) ∧ ((True) ∧ (((True) ∧ (SumOk Tryz.prog s_l03Used.E (cB (cR (cL (cR (cR (bodyOf Tryz.f134)))))) (s_l03Used.S1))) ∧ (True)))) (by kernel_rfl) ⟨trivial, ⟨trivial, ⟨⟨trivial, (s_l03Used.ok1 hE)⟩, trivial⟩⟩⟩
theorem s_l03Used.hE : EOk Tryz.prog (s_l03Used.E) := EOk.of ttOk (trivial)
theorem s_l03Used.fok : FOk Tryz.prog 134 s_l03Used.fi :=
  fokS (E := s_l03Used.E) (wy := ⟨[[none]], [[]], []⟩) (h := (fun gs => .n (.a) (.n (.a) (.n (.n (.a) (.b (.s (s_l03Used.S1)))) (.a))))) (G := fun t g => s_l03Used.F (fun y0 => g y0) t.1.1 t.1.2.1) (by kernel_rfl) s_l03Used.hE Tryz.func134 (by kernel_rfl) rfl (Nat.le_refl _) (fun t => HintOk.n1 (by kernel_rfl) (s_l03Used.hok s_l03Used.hE)) (fun t g => s_l03Used_nat g t.1.1 t.1.2.1) (fun t => by kernel_rfl)
/-! loop.example_g00220_spec.DiskOK -/
def s_DiskOK.l1 {R : Type} (kke0 : Int → List (El kFile) → Option R) (kkr : Bool → Option R) : Nat → Int → Int → List (El kFile) → Option R
  | 0, _, _, _ => none
  | n + 1, i, d, d1 =>
    cond (decide (i < (List.length d1 : Int))) (
      grd (gIx i (List.length d1)) <|
      (s_NameOK ((rdE kFile d1 (Int.toNat i)).1)).bind fun r =>
      cond (!r) (kkr false) (
        (s_l01In ((rdE kFile d1 (Int.toNat i)).2.2) (0 : Int) (ByteArray.size (rdE kFile d1 (Int.toNat i)).2.1 : Int)).bind fun r1 =>
        cond (!r1) (kkr false) (
          cond (decide ((ByteArray.size (rdE kFile d1 (Int.toNat i)).2.1 : Int) > (3000 : Int))) (kkr false) (
            cond (decide (i > (0 : Int))) (
              grd (gIx (IntKind.wrap .i64 (i - (1 : Int))) (List.length d1)) <|
              cond (!(sLt (rdE kFile d1 (Int.toNat (IntKind.wrap .i64 (i - (1 : Int))))).1 (rdE kFile d1 (Int.toNat i)).1)) (kkr false) (s_DiskOK.l1 kke0 kkr n (IntKind.wrap .i64 (i + (1 : Int))) d d1)) (s_DiskOK.l1 kke0 kkr n (IntKind.wrap .i64 (i + (1 : Int))) d d1))))) (kke0 d d1)
theorem s_DiskOK.l1_nat {R S : Type} (g : R → Option S) (kke0 : Int → List (El kFile) → Option R) (kkr : Bool → Option R) : ∀ (n : Nat) (i : Int) (d : Int) (d1 : List (El kFile)), s_DiskOK.l1 (fun y0 y1 => (kke0 y0 y1).bind g) (fun y0 => (kkr y0).bind g) n i d d1 = (s_DiskOK.l1 kke0 kkr n i d d1).bind g := by
  intro n
  induction n with
  | zero => intros; rfl
  | succ n ih => intros; simp only [s_DiskOK.l1, grd_bind, cnd_bind, bnd_bind, non_bind, ih]
def s_DiskOK.F {R : Type} (kk : Bool → Option R) (d_Room : Int) (d_Files : List (El kFile)) : Option R :=
  (s_l01In d_Room (0 : Int) (3000 : Int)).bind fun r =>
  cond (!r) (kk false) (
    cond (decide ((List.length d_Files : Int) > (8 : Int))) (kk false) (
      s_DiskOK.l1 (fun d d1 =>
        (s_l03Used d d1).bind fun r1 =>
        kk (decide (r1 ≤ d))) (fun b => kk b) fuel (0 : Int) d_Room d_Files))
theorem s_DiskOK.F_nat {R S : Type} (g : R → Option S) (kk : Bool → Option R) (d_Room : Int) (d_Files : List (El kFile)) : s_DiskOK.F (fun y0 => (kk y0).bind g) d_Room d_Files = (s_DiskOK.F kk d_Room d_Files).bind g := by
  simp only [s_DiskOK.F, grd_bind, cnd_bind, bnd_bind, non_bind, ← s_DiskOK.l1_nat]
def s_DiskOK (d_Room : Int) (d_Files : List (El kFile)) : Option Bool := s_DiskOK.F (fun y0 => some y0) d_Room d_Files
theorem s_DiskOK_nat {S : Type} (g : Bool → Option S) (d_Room : Int) (d_Files : List (El kFile)) : s_DiskOK.F (fun y0 => g y0) d_Room d_Files = (s_DiskOK d_Room d_Files).bind g := s_DiskOK.F_nat g (fun y0 => some y0) d_Room d_Files
def s_DiskOK.out : Bool → CRes := fun a => ⟨encL SV.enc [.one (.bool)] (a, ()), [encL SC.enc [] ()]⟩
def s_DiskOK.ps : List PS := [.val [none, some (kFile, false)]]
def s_DiskOK.sA : List SA := [.v (.agg [.int .i64, .slv [] kFile])]
def s_DiskOK.fi : FI := FIs s_DiskOK.sA (Bool) (fun t => s_DiskOK t.1.1 t.1.2.1) s_DiskOK.out s_DiskOK.ps
def s_DiskOK.E : Env := ⟨tt, lkF [(63, s_l01In.fi), (133, s_NameOK.fi), (134, s_l03Used.fi)], 67, 0, [], []⟩
def s_DiskOK.sh1 : SK := ⟨[.v (.one (.bptr 0 0)), .v (.one (.int .i64))], [.box [.int .i64, .slv [1] kFile]]⟩
def s_DiskOK.sh1e0 : SK := ⟨[.v (.one (.bptr 0 0))], [.box [.int .i64, .slv [1] kFile]]⟩
def s_DiskOK.sh1r : SK := ⟨[.v (.one (.bool))], []⟩
def s_DiskOK.ko1 : Ex → List CastAt × List Nat
  | .nrm => ([], [])
  | .ret => ([], [2])
  | .ext i => cond (Nat.beq i 0) ([], [1]) ([], [])
def s_DiskOK.G1 (n : Nat) (R : Type) (t : s_DiskOK.sh1.T) (K : Ex → Kp → Option R) : Option R := s_DiskOK.l1 (fun y0 y1 => K (.ext 0) (SK.enc s_DiskOK.sh1e0 (((), ()), ((y0, y1, ()), ())))) (fun y0 => K .ret (SK.enc s_DiskOK.sh1r ((y0, ()), ()))) n t.1.2.1 t.2.1.1 t.2.1.2.1
def s_DiskOK.S1 : Sum := ⟨([], [1, 3]), sumF s_DiskOK.sh1 (s_DiskOK.G1 fuel), s_DiskOK.ko1⟩
theorem s_DiskOK.ok1 (hE : EOk Tryz.prog (s_DiskOK.E)) : SumOk Tryz.prog s_DiskOK.E (cB (cR (cL (cR (cR (bodyOf Tryz.f87)))))) (s_DiskOK.S1) := by
  have hh : HintOk Tryz.prog s_DiskOK.E (cB (cB (cR (cL (cR (cR (bodyOf Tryz.f87))))))) (.a) := HintOk.n1 (Q := True) (by kernel_rfl) trivial
  have h := loopS (kin := ([], [1, 3])) (kout := s_DiskOK.ko1) (sh := s_DiskOK.sh1) (F := s_DiskOK.G1) (ops_ok (hE.gv _)) (by kernel_rfl) hh (fun _ _ _ => rfl) (fun n R t K => by kernel_rfl) fuel
  exact HintOk.n1 (c := (cB (cR (cL (cR (cR (bodyOf Tryz.f87))))))) (h := .s (s_DiskOK.S1)) (P := Tryz.prog) (E := s_DiskOK.E) (by kernel_rfl) h
theorem s_DiskOK.hok (hE : EOk Tryz.prog (s_DiskOK.E)) : HintOk Tryz.prog s_DiskOK.E (bodyOf Tryz.f87) (.n (.a) (.n (.a) (.n (.n (.a) (.b (.s (s_DiskOK.S1)))) (.a)))) := HintOk.n1 (Q := (True) ∧ ((True) ∧ (((True) ∧ (SumOk Tryz.prog s_DiskOK.E (cB (cR (cL (cR (cR (bodyOf Tryz.f87)))))) (s_DiskOK.S1))) ∧ (True)))) (by kernel_rfl) ⟨trivial, ⟨trivial, ⟨⟨trivial, (s_DiskOK.ok1 hE)⟩, trivial⟩⟩⟩
theorem s_DiskOK.hE : EOk Tryz.prog (s_DiskOK.E) := EOk.of ttOk (⟨s_l01In.fok, ⟨s_NameOK.fok, ⟨s_l03Used.fok, trivial⟩⟩⟩)
theorem s_DiskOK.fok : FOk Tryz.prog 87 s_DiskOK.fi :=
  fokS (E := s_DiskOK.E) (wy := ⟨[[none]], [[]], []⟩) (h := (fun gs => .n (.a) (.n (.a) (.n (.n (.a) (.b (.s (s_DiskOK.S1)))) (.a))))) (G := fun t g => s_DiskOK.F (fun y0 => g y0) t.1.1 t.1.2.1) (by kernel_rfl) s_DiskOK.hE Tryz.func87 (by kernel_rfl) rfl (Nat.le_refl _) (fun t => HintOk.n1 (by kernel_rfl) (s_DiskOK.hok s_DiskOK.hE)) (fun t g => s_DiskOK_nat g t.1.1 t.1.2.1) (fun t => by kernel_rfl)
/-! loop.example_g00220_spec.l04Number -/
def s_l04Number.F {R : Type} (kk : Int → Option R) (name : ByteArray) : Option R :=
  cond ((ByteArray.size name : Int) != (3 : Int)) (kk (0 : Int)) (
    grd (gIx (0 : Int) (ByteArray.size name)) <|
    cond ((byteAt name (0 : Int)) != (115 : Int)) (kk (0 : Int)) (
      grd (gIx (1 : Int) (ByteArray.size name)) <|
      (s_l00Digit (byteAt name (1 : Int))).bind fun r =>
      cond (!r) (kk (0 : Int)) (
        grd (gIx (2 : Int) (ByteArray.size name)) <|
        (s_l00Digit (byteAt name (2 : Int))).bind fun r1 =>
        cond (!r1) (kk (0 : Int)) (
          grd (gIx (1 : Int) (ByteArray.size name)) <|
          grd (gIx (2 : Int) (ByteArray.size name)) <|
          kk (IntKind.wrap .i64 ((IntKind.wrap .i64 ((IntKind.wrap .i64 ((10 : Int) * (IntKind.wrap .i64 ((IntKind.wrap .i64 (byteAt name (1 : Int))) - (48 : Int))))) + (IntKind.wrap .i64 (byteAt name (2 : Int))))) - (48 : Int)))))))
theorem s_l04Number.F_nat {R S : Type} (g : R → Option S) (kk : Int → Option R) (name : ByteArray) : s_l04Number.F (fun y0 => (kk y0).bind g) name = (s_l04Number.F kk name).bind g := by
  simp only [s_l04Number.F, grd_bind, cnd_bind, bnd_bind, non_bind]
def s_l04Number (name : ByteArray) : Option Int := s_l04Number.F (fun y0 => some y0) name
theorem s_l04Number_nat {S : Type} (g : Int → Option S) (name : ByteArray) : s_l04Number.F (fun y0 => g y0) name = (s_l04Number name).bind g := s_l04Number.F_nat g (fun y0 => some y0) name
def s_l04Number.out : Int → CRes := fun a => ⟨encL SV.enc [.one (.int .i64)] (a, ()), [encL SC.enc [] ()]⟩
def s_l04Number.ps : List PS := [.val [none]]
def s_l04Number.sA : List SA := [.v (.one (.str))]
def s_l04Number.fi : FI := FIs s_l04Number.sA (Int) (fun t => s_l04Number t.1) s_l04Number.out s_l04Number.ps
def s_l04Number.E : Env := ⟨tt, lkF [(206, s_l00Digit.fi)], 33, 0, [], []⟩
theorem s_l04Number.hok (hE : EOk Tryz.prog (s_l04Number.E)) : HintOk Tryz.prog s_l04Number.E (bodyOf Tryz.f170) (.a) := HintOk.n1 (Q := True) (by kernel_rfl) trivial
theorem s_l04Number.hE : EOk Tryz.prog (s_l04Number.E) := EOk.of ttOk (⟨s_l00Digit.fok, trivial⟩)
theorem s_l04Number.fok : FOk Tryz.prog 170 s_l04Number.fi :=
  fokS (E := s_l04Number.E) (wy := ⟨[[none]], [[]], []⟩) (h := (fun gs => .a)) (G := fun t g => s_l04Number.F (fun y0 => g y0) t.1) (by kernel_rfl) s_l04Number.hE Tryz.func170 (by kernel_rfl) rfl (Nat.le_refl _) (fun t => HintOk.n1 (by kernel_rfl) (s_l04Number.hok s_l04Number.hE)) (fun t g => s_l04Number_nat g t.1) (fun t => by kernel_rfl)
/-! loop.example_g00220_spec.l04Segments -/
def s_l04Segments.l1 {R : Type} (kke0 : List Int → Option R) : Nat → Int → Int → List (El kFile) → List Int → Option R
  | 0, _, _, _, _ => none
  | n + 1, i, d, d1, out =>
    cond (decide (i < (List.length d1 : Int))) (
      grd (gIx i (List.length d1)) <|
      (s_l04Number ((rdE kFile d1 (Int.toNat i)).1)).bind fun r =>
      cond (decide (r > (0 : Int))) (
        grd (gRm (((List.length out) + (List.length [r])) * 8)) <|
        s_l04Segments.l1 kke0 n (IntKind.wrap .i64 (i + (1 : Int))) d d1 (out ++ [r])) (s_l04Segments.l1 kke0 n (IntKind.wrap .i64 (i + (1 : Int))) d d1 out)) (kke0 out)
theorem s_l04Segments.l1_nat {R S : Type} (g : R → Option S) (kke0 : List Int → Option R) : ∀ (n : Nat) (i : Int) (d : Int) (d1 : List (El kFile)) (out : List Int), s_l04Segments.l1 (fun y0 => (kke0 y0).bind g) n i d d1 out = (s_l04Segments.l1 kke0 n i d d1 out).bind g := by
  intro n
  induction n with
  | zero => intros; rfl
  | succ n ih => intros; simp only [s_l04Segments.l1, grd_bind, cnd_bind, bnd_bind, non_bind, ih]
def s_l04Segments.F {R : Type} (kk : List Int → Option R) (d_Room : Int) (d_Files : List (El kFile)) : Option R :=
  s_l04Segments.l1 (fun out => kk out) fuel (0 : Int) d_Room d_Files ([] : List Int)
theorem s_l04Segments.F_nat {R S : Type} (g : R → Option S) (kk : List Int → Option R) (d_Room : Int) (d_Files : List (El kFile)) : s_l04Segments.F (fun y0 => (kk y0).bind g) d_Room d_Files = (s_l04Segments.F kk d_Room d_Files).bind g := by
  simp only [s_l04Segments.F, grd_bind, cnd_bind, bnd_bind, non_bind, ← s_l04Segments.l1_nat]
def s_l04Segments (d_Room : Int) (d_Files : List (El kFile)) : Option (List Int) := s_l04Segments.F (fun y0 => some y0) d_Room d_Files
theorem s_l04Segments_nat {S : Type} (g : (List Int) → Option S) (d_Room : Int) (d_Files : List (El kFile)) : s_l04Segments.F (fun y0 => g y0) d_Room d_Files = (s_l04Segments d_Room d_Files).bind g := s_l04Segments.F_nat g (fun y0 => some y0) d_Room d_Files
def s_l04Segments.out : (List Int) → CRes := fun a => ⟨encL SV.enc [.one (.own [] (.int .i64) true)] (a, ()), [encL SC.enc [] ()]⟩
def s_l04Segments.ps : List PS := [.val [none, some (kFile, false)]]
def s_l04Segments.sA : List SA := [.v (.agg [.int .i64, .slv [] kFile])]
def s_l04Segments.fi : FI := FIs s_l04Segments.sA (List Int) (fun t => s_l04Segments t.1.1 t.1.2.1) s_l04Segments.out s_l04Segments.ps
def s_l04Segments.E : Env := ⟨tt, lkF [(170, s_l04Number.fi)], 28, 0, [], []⟩
def s_l04Segments.sh1 : SK := ⟨[.v (.one (.bptr 0 0)), .v (.one (.slo 1)), .v (.one (.int .i64))], [.box [.int .i64, .slv [1] kFile], .arr (.int .i64) [] true]⟩
def s_l04Segments.sh1e0 : SK := ⟨[.v (.one (.slo 0))], [.arr (.int .i64) [] true]⟩
def s_l04Segments.ko1 : Ex → List CastAt × List Nat
  | .nrm => ([], [])
  | .ret => ([], [])
  | .ext i => cond (Nat.beq i 0) ([], [3]) ([], [])
def s_l04Segments.G1 (n : Nat) (R : Type) (t : s_l04Segments.sh1.T) (K : Ex → Kp → Option R) : Option R := s_l04Segments.l1 (fun y0 => K (.ext 0) (SK.enc s_l04Segments.sh1e0 (((), ()), (y0, ())))) n t.1.2.2.1 t.2.1.1 t.2.1.2.1 t.2.2.1
def s_l04Segments.S1 : Sum := ⟨([], [1, 3, 4]), sumF s_l04Segments.sh1 (s_l04Segments.G1 fuel), s_l04Segments.ko1⟩
theorem s_l04Segments.ok1 (hE : EOk Tryz.prog (s_l04Segments.E)) : SumOk Tryz.prog s_l04Segments.E (cB (cR (cL (cR (cR (bodyOf Tryz.f126)))))) (s_l04Segments.S1) := by
  have hh : HintOk Tryz.prog s_l04Segments.E (cB (cB (cR (cL (cR (cR (bodyOf Tryz.f126))))))) (.a) := HintOk.n1 (Q := True) (by kernel_rfl) trivial
  have h := loopS (kin := ([], [1, 3, 4])) (kout := s_l04Segments.ko1) (sh := s_l04Segments.sh1) (F := s_l04Segments.G1) (ops_ok (hE.gv _)) (by kernel_rfl) hh (fun _ _ _ => rfl) (fun n R t K => by kernel_rfl) fuel
  exact HintOk.n1 (c := (cB (cR (cL (cR (cR (bodyOf Tryz.f126))))))) (h := .s (s_l04Segments.S1)) (P := Tryz.prog) (E := s_l04Segments.E) (by kernel_rfl) h
theorem s_l04Segments.hok (hE : EOk Tryz.prog (s_l04Segments.E)) : HintOk Tryz.prog s_l04Segments.E (bodyOf Tryz.f126) (.n (.a) (.n (.a) (.n (.n (.a) (.b (.s (s_l04Segments.S1)))) (.a)))) := HintOk.n1 (Q := (True) ∧ ((True) ∧ (((True) ∧ (SumOk Tryz.prog s_l04Segments.E (cB (cR (cL (cR (cR (bodyOf Tryz.f126)))))) (s_l04Segments.S1))) ∧ (True)))) (by kernel_rfl) ⟨trivial, ⟨trivial, ⟨⟨trivial, (s_l04Segments.ok1 hE)⟩, trivial⟩⟩⟩
theorem s_l04Segments.hE : EOk Tryz.prog (s_l04Segments.E) := EOk.of ttOk (⟨s_l04Number.fok, trivial⟩)
theorem s_l04Segments.fok : FOk Tryz.prog 126 s_l04Segments.fi :=
  fokS (E := s_l04Segments.E) (wy := ⟨[[some ((.int .i64), true)]], [[]], []⟩) (h := (fun gs => .n (.a) (.n (.a) (.n (.n (.a) (.b (.s (s_l04Segments.S1)))) (.a))))) (G := fun t g => s_l04Segments.F (fun y0 => g y0) t.1.1 t.1.2.1) (by kernel_rfl) s_l04Segments.hE Tryz.func126 (by kernel_rfl) rfl (Nat.le_refl _) (fun t => HintOk.n1 (by kernel_rfl) (s_l04Segments.hok s_l04Segments.hE)) (fun t g => s_l04Segments_nat g t.1.1 t.1.2.1) (fun t => by kernel_rfl)
/-! loop.example_g00220_spec.l00Digits -/
def s_l00Digits.F {R : Type} (rc : Int → Option ByteArray) (kk : ByteArray → Option R) (n_ : Int) : Option R :=
  cond (n_ == (-9223372036854775808 : Int)) (
    kk (⟨#[45, 57, 50, 50, 51, 51, 55, 50, 48, 51, 54, 56, 53, 52, 55, 55, 53, 56, 48, 56]⟩ : ByteArray)) (
    cond (decide (n_ < (0 : Int))) (
      (rc (IntKind.wrap .i64 (0 - n_))).bind fun r =>
      grd (gCat (⟨#[45]⟩ : ByteArray) r) <|
      kk ((⟨#[45]⟩ : ByteArray) ++ r)) (
      cond (decide (n_ < (10 : Int))) (kk (strL [IntKind.wrap .u8 (IntKind.wrap .i64 ((48 : Int) + n_))])) (
        grd (gNz (10 : Int)) <|
        (rc (IntKind.wrap .i64 (Int.tdiv n_ (10 : Int)))).bind fun r1 =>
        grd (gNz (10 : Int)) <|
        grd (gCat r1 (strL [IntKind.wrap .u8 (IntKind.wrap .i64 ((48 : Int) + (Int.tmod n_ (10 : Int))))])) <|
        kk (r1 ++ (strL [IntKind.wrap .u8 (IntKind.wrap .i64 ((48 : Int) + (Int.tmod n_ (10 : Int))))])))))
theorem s_l00Digits.F_nat {R S : Type} (g : R → Option S) (rc : Int → Option ByteArray) (kk : ByteArray → Option R) (n_ : Int) : s_l00Digits.F rc (fun y0 => (kk y0).bind g) n_ = (s_l00Digits.F rc kk n_).bind g := by
  simp only [s_l00Digits.F, grd_bind, cnd_bind, bnd_bind, non_bind]
def s_l00Digits : Nat → Int → Option ByteArray
  | 0, _ => none
  | fu + 1, n_ => s_l00Digits.F (s_l00Digits fu) (fun y0 => some y0) n_
theorem s_l00Digits_nat {S : Type} (fu : Nat) (g : ByteArray → Option S) (n_ : Int) : s_l00Digits.F (s_l00Digits fu) (fun y0 => g y0) n_ = (s_l00Digits (fu + 1) n_).bind g := s_l00Digits.F_nat g (s_l00Digits fu) (fun y0 => some y0) n_
def s_l00Digits.out : ByteArray → CRes := fun a => ⟨encL SV.enc [.one (.str)] (a, ()), [encL SC.enc [] ()]⟩
def s_l00Digits.ps : List PS := [.val [none]]
def s_l00Digits.sA : List SA := [.v (.one (.int .i64))]
def s_l00Digits.fi (fu : Nat) : FI := FIs s_l00Digits.sA (ByteArray) (fun t => s_l00Digits fu t.1) s_l00Digits.out s_l00Digits.ps
def s_l00Digits.E (fu : Nat) : Env := ⟨tt, lkF [(116, s_l00Digits.fi fu)], 28, 0, [], []⟩
theorem s_l00Digits.hok (fu : Nat) (hE : EOk Tryz.prog (s_l00Digits.E fu)) : HintOk Tryz.prog (s_l00Digits.E fu) (bodyOf Tryz.f116) (.a) := HintOk.n1 (Q := True) (by kernel_rfl) trivial
theorem s_l00Digits.fok0 : FOk Tryz.prog 116 (s_l00Digits.fi 0) := FOk.zero ⟨_, _, Tryz.func116, by kernel_rfl, rfl⟩ (fun _ => rfl)
theorem s_l00Digits.fok1 (fu : Nat) (ih : FOk Tryz.prog 116 (s_l00Digits.fi fu)) : FOk Tryz.prog 116 (s_l00Digits.fi (fu + 1)) := by
  have hE : EOk Tryz.prog (s_l00Digits.E fu) := EOk.of ttOk (⟨ih, trivial⟩)
  exact fokS (E := s_l00Digits.E fu) (wy := ⟨[[none]], [[]], []⟩) (h := (fun gs => .a)) (G := fun t g => s_l00Digits.F (s_l00Digits fu) (fun y0 => g y0) t.1) (by kernel_rfl) hE Tryz.func116 (by kernel_rfl) rfl (Nat.le_refl _) (fun t => HintOk.n1 (by kernel_rfl) (s_l00Digits.hok fu hE)) (fun t g => s_l00Digits_nat fu g t.1) (fun t => by kernel_rfl)
theorem s_l00Digits.fok (fu : Nat) : FOk Tryz.prog 116 (s_l00Digits.fi fu) := Nat.rec s_l00Digits.fok0 s_l00Digits.fok1 fu
/-! loop.example_g00220_spec.l04Name -/
def s_l04Name.F {R : Type} (kk : ByteArray → Option R) (n_ : Int) : Option R :=
  grd (gNz (10 : Int)) <|
  (s_l00Digits fuel (IntKind.wrap .i64 (Int.tdiv n_ (10 : Int)))).bind fun r =>
  grd (gCat (⟨#[115]⟩ : ByteArray) r) <|
  grd (gNz (10 : Int)) <|
  (s_l00Digits fuel (Int.tmod n_ (10 : Int))).bind fun r1 =>
  grd (gCat ((⟨#[115]⟩ : ByteArray) ++ r) r1) <|
  kk (((⟨#[115]⟩ : ByteArray) ++ r) ++ r1)
theorem s_l04Name.F_nat {R S : Type} (g : R → Option S) (kk : ByteArray → Option R) (n_ : Int) : s_l04Name.F (fun y0 => (kk y0).bind g) n_ = (s_l04Name.F kk n_).bind g := by
  simp only [s_l04Name.F, grd_bind, cnd_bind, bnd_bind, non_bind]
def s_l04Name (n_ : Int) : Option ByteArray := s_l04Name.F (fun y0 => some y0) n_
theorem s_l04Name_nat {S : Type} (g : ByteArray → Option S) (n_ : Int) : s_l04Name.F (fun y0 => g y0) n_ = (s_l04Name n_).bind g := s_l04Name.F_nat g (fun y0 => some y0) n_
def s_l04Name.out : ByteArray → CRes := fun a => ⟨encL SV.enc [.one (.str)] (a, ()), [encL SC.enc [] ()]⟩
def s_l04Name.ps : List PS := [.val [none]]
def s_l04Name.sA : List SA := [.v (.one (.int .i64))]
def s_l04Name.fi : FI := FIs s_l04Name.sA (ByteArray) (fun t => s_l04Name t.1) s_l04Name.out s_l04Name.ps
def s_l04Name.E : Env := ⟨tt, lkF [(116, s_l00Digits.fi fuel)], 11, 0, [], []⟩
theorem s_l04Name.hok (hE : EOk Tryz.prog (s_l04Name.E)) : HintOk Tryz.prog s_l04Name.E (bodyOf Tryz.f129) (.a) := HintOk.n1 (Q := True) (by kernel_rfl) trivial
theorem s_l04Name.hE : EOk Tryz.prog (s_l04Name.E) := EOk.of ttOk (⟨s_l00Digits.fok fuel, trivial⟩)
theorem s_l04Name.fok : FOk Tryz.prog 129 s_l04Name.fi :=
  fokS (E := s_l04Name.E) (wy := ⟨[[none]], [[]], []⟩) (h := (fun gs => .a)) (G := fun t g => s_l04Name.F (fun y0 => g y0) t.1) (by kernel_rfl) s_l04Name.hE Tryz.func129 (by kernel_rfl) rfl (Nat.le_refl _) (fun t => HintOk.n1 (by kernel_rfl) (s_l04Name.hok s_l04Name.hE)) (fun t g => s_l04Name_nat g t.1) (fun t => by kernel_rfl)
/-! loop.example_g00220_spec.l03Find -/
def s_l03Find.l1 {R : Type} (kke0 : Option R) (kkr : Int → Option R) : Nat → ByteArray → Int → Int → List (El kFile) → Option R
  | 0, _, _, _, _ => none
  | n + 1, name, i, d, d1 =>
    cond (decide (i < (List.length d1 : Int))) (
      grd (gIx i (List.length d1)) <|
      cond (sEq (rdE kFile d1 (Int.toNat i)).1 name) (kkr i) (s_l03Find.l1 kke0 kkr n name (IntKind.wrap .i64 (i + (1 : Int))) d d1)) (kke0)
theorem s_l03Find.l1_nat {R S : Type} (g : R → Option S) (kke0 : Option R) (kkr : Int → Option R) : ∀ (n : Nat) (name : ByteArray) (i : Int) (d : Int) (d1 : List (El kFile)), s_l03Find.l1 (kke0.bind g) (fun y0 => (kkr y0).bind g) n name i d d1 = (s_l03Find.l1 kke0 kkr n name i d d1).bind g := by
  intro n
  induction n with
  | zero => intros; rfl
  | succ n ih => intros; simp only [s_l03Find.l1, grd_bind, cnd_bind, bnd_bind, non_bind, ih]
def s_l03Find.F {R : Type} (kk : Int → Option R) (d_Room : Int) (d_Files : List (El kFile)) (name : ByteArray) : Option R :=
  s_l03Find.l1 (kk (-1 : Int)) (fun i => kk i) fuel name (0 : Int) d_Room d_Files
theorem s_l03Find.F_nat {R S : Type} (g : R → Option S) (kk : Int → Option R) (d_Room : Int) (d_Files : List (El kFile)) (name : ByteArray) : s_l03Find.F (fun y0 => (kk y0).bind g) d_Room d_Files name = (s_l03Find.F kk d_Room d_Files name).bind g := by
  simp only [s_l03Find.F, grd_bind, cnd_bind, bnd_bind, non_bind, ← s_l03Find.l1_nat]
def s_l03Find (d_Room : Int) (d_Files : List (El kFile)) (name : ByteArray) : Option Int := s_l03Find.F (fun y0 => some y0) d_Room d_Files name
theorem s_l03Find_nat {S : Type} (g : Int → Option S) (d_Room : Int) (d_Files : List (El kFile)) (name : ByteArray) : s_l03Find.F (fun y0 => g y0) d_Room d_Files name = (s_l03Find d_Room d_Files name).bind g := s_l03Find.F_nat g (fun y0 => some y0) d_Room d_Files name
def s_l03Find.out : Int → CRes := fun a => ⟨encL SV.enc [.one (.int .i64)] (a, ()), [encL SC.enc [] (), encL SC.enc [] ()]⟩
def s_l03Find.ps : List PS := [.val [none, some (kFile, false)], .val [none]]
def s_l03Find.sA : List SA := [.v (.agg [.int .i64, .slv [] kFile]), .v (.one (.str))]
def s_l03Find.fi : FI := FIs s_l03Find.sA (Int) (fun t => s_l03Find t.1.1 t.1.2.1 t.2.1) s_l03Find.out s_l03Find.ps
def s_l03Find.E : Env := ⟨tt, lkF [], 22, 0, [], []⟩
def s_l03Find.sh1 : SK := ⟨[.v (.one (.str)), .v (.one (.bptr 0 0)), .v (.one (.int .i64))], [.box [.int .i64, .slv [1] kFile]]⟩
def s_l03Find.sh1e0 : SK := ⟨[], []⟩
def s_l03Find.sh1r : SK := ⟨[.v (.one (.int .i64))], []⟩
def s_l03Find.ko1 : Ex → List CastAt × List Nat
  | .nrm => ([], [])
  | .ret => ([], [4])
  | .ext i => cond (Nat.beq i 0) ([], []) ([], [])
def s_l03Find.G1 (n : Nat) (R : Type) (t : s_l03Find.sh1.T) (K : Ex → Kp → Option R) : Option R := s_l03Find.l1 (K (.ext 0) (SK.enc s_l03Find.sh1e0 ((), ()))) (fun y0 => K .ret (SK.enc s_l03Find.sh1r ((y0, ()), ()))) n t.1.1 t.1.2.2.1 t.2.1.1 t.2.1.2.1
def s_l03Find.S1 : Sum := ⟨([], [1, 2, 5]), sumF s_l03Find.sh1 (s_l03Find.G1 fuel), s_l03Find.ko1⟩
theorem s_l03Find.ok1 (hE : EOk Tryz.prog (s_l03Find.E)) : SumOk Tryz.prog s_l03Find.E (cB (cR (cL (cR (bodyOf Tryz.f173))))) (s_l03Find.S1) := by
  have hh : HintOk Tryz.prog s_l03Find.E (cB (cB (cR (cL (cR (bodyOf Tryz.f173)))))) (.a) := HintOk.n1 (Q := True) (by kernel_rfl) trivial
  have h := loopS (kin := ([], [1, 2, 5])) (kout := s_l03Find.ko1) (sh := s_l03Find.sh1) (F := s_l03Find.G1) (ops_ok (hE.gv _)) (by kernel_rfl) hh (fun _ _ _ => rfl) (fun n R t K => by kernel_rfl) fuel
  exact HintOk.n1 (c := (cB (cR (cL (cR (bodyOf Tryz.f173)))))) (h := .s (s_l03Find.S1)) (P := Tryz.prog) (E := s_l03Find.E) (by kernel_rfl) h
theorem s_l03Find.hok (hE : EOk Tryz.prog (s_l03Find.E)) : HintOk Tryz.prog s_l03Find.E (bodyOf Tryz.f173) (.n (.a) (.n (.n (.a) (.b (.s (s_l03Find.S1)))) (.a))) := HintOk.n1 (Q := (True) ∧ (((True) ∧ (SumOk Tryz.prog s_l03Find.E (cB (cR (cL (cR (bodyOf Tryz.f173))))) (s_l03Find.S1))) ∧ (True))) (by kernel_rfl) ⟨trivial, ⟨⟨trivial, (s_l03Find.ok1 hE)⟩, trivial⟩⟩
theorem s_l03Find.hE : EOk Tryz.prog (s_l03Find.E) := EOk.of ttOk (trivial)
theorem s_l03Find.fok : FOk Tryz.prog 173 s_l03Find.fi :=
  fokS (E := s_l03Find.E) (wy := ⟨[[none]], [[], []], []⟩) (h := (fun gs => .n (.a) (.n (.n (.a) (.b (.s (s_l03Find.S1)))) (.a)))) (G := fun t g => s_l03Find.F (fun y0 => g y0) t.1.1 t.1.2.1 t.2.1) (by kernel_rfl) s_l03Find.hE Tryz.func173 (by kernel_rfl) rfl (Nat.le_refl _) (fun t => HintOk.n1 (by kernel_rfl) (s_l03Find.hok s_l03Find.hE)) (fun t g => s_l03Find_nat g t.1.1 t.1.2.1 t.2.1) (fun t => by kernel_rfl)
/-! loop.example_g00220_spec.l04Data -/
def s_l04Data.F {R : Type} (kk : ByteArray → Option R) (d_Room : Int) (d_Files : List (El kFile)) (n_ : Int) : Option R :=
  (s_l04Name n_).bind fun r =>
  (s_l03Find d_Room d_Files r).bind fun r1 =>
  grd (gIx r1 (List.length d_Files)) <|
  kk (rdE kFile d_Files (Int.toNat r1)).2.1
theorem s_l04Data.F_nat {R S : Type} (g : R → Option S) (kk : ByteArray → Option R) (d_Room : Int) (d_Files : List (El kFile)) (n_ : Int) : s_l04Data.F (fun y0 => (kk y0).bind g) d_Room d_Files n_ = (s_l04Data.F kk d_Room d_Files n_).bind g := by
  simp only [s_l04Data.F, grd_bind, cnd_bind, bnd_bind, non_bind]
def s_l04Data (d_Room : Int) (d_Files : List (El kFile)) (n_ : Int) : Option ByteArray := s_l04Data.F (fun y0 => some y0) d_Room d_Files n_
theorem s_l04Data_nat {S : Type} (g : ByteArray → Option S) (d_Room : Int) (d_Files : List (El kFile)) (n_ : Int) : s_l04Data.F (fun y0 => g y0) d_Room d_Files n_ = (s_l04Data d_Room d_Files n_).bind g := s_l04Data.F_nat g (fun y0 => some y0) d_Room d_Files n_
def s_l04Data.out : ByteArray → CRes := fun a => ⟨encL SV.enc [.one (.str)] (a, ()), [encL SC.enc [] (), encL SC.enc [] ()]⟩
def s_l04Data.ps : List PS := [.val [none, some (kFile, false)], .val [none]]
def s_l04Data.sA : List SA := [.v (.agg [.int .i64, .slv [] kFile]), .v (.one (.int .i64))]
def s_l04Data.fi : FI := FIs s_l04Data.sA (ByteArray) (fun t => s_l04Data t.1.1 t.1.2.1 t.2.1) s_l04Data.out s_l04Data.ps
def s_l04Data.E : Env := ⟨tt, lkF [(129, s_l04Name.fi), (173, s_l03Find.fi)], 14, 0, [], []⟩
theorem s_l04Data.hok (hE : EOk Tryz.prog (s_l04Data.E)) : HintOk Tryz.prog s_l04Data.E (bodyOf Tryz.f131) (.a) := HintOk.n1 (Q := True) (by kernel_rfl) trivial
theorem s_l04Data.hE : EOk Tryz.prog (s_l04Data.E) := EOk.of ttOk (⟨s_l04Name.fok, ⟨s_l03Find.fok, trivial⟩⟩)
theorem s_l04Data.fok : FOk Tryz.prog 131 s_l04Data.fi :=
  fokS (E := s_l04Data.E) (wy := ⟨[[none]], [[], []], []⟩) (h := (fun gs => .a)) (G := fun t g => s_l04Data.F (fun y0 => g y0) t.1.1 t.1.2.1 t.2.1) (by kernel_rfl) s_l04Data.hE Tryz.func131 (by kernel_rfl) rfl (Nat.le_refl _) (fun t => HintOk.n1 (by kernel_rfl) (s_l04Data.hok s_l04Data.hE)) (fun t g => s_l04Data_nat g t.1.1 t.1.2.1 t.2.1) (fun t => by kernel_rfl)
/-! loop.example_g00220_spec.l02Four -/
def s_l02Four.F {R : Type} (kk : List Int → Option R) (n_ : Int) : Option R :=
  grd (gSh (24 : Int)) <|
  grd (gSh (16 : Int)) <|
  grd (gSh (8 : Int)) <|
  kk [IntKind.wrap .u8 (iShr .i64 n_ (24 : Int)), IntKind.wrap .u8 (iShr .i64 n_ (16 : Int)), IntKind.wrap .u8 (iShr .i64 n_ (8 : Int)), IntKind.wrap .u8 n_]
theorem s_l02Four.F_nat {R S : Type} (g : R → Option S) (kk : List Int → Option R) (n_ : Int) : s_l02Four.F (fun y0 => (kk y0).bind g) n_ = (s_l02Four.F kk n_).bind g := by
  simp only [s_l02Four.F, grd_bind, cnd_bind, bnd_bind, non_bind]
def s_l02Four (n_ : Int) : Option (List Int) := s_l02Four.F (fun y0 => some y0) n_
theorem s_l02Four_nat {S : Type} (g : (List Int) → Option S) (n_ : Int) : s_l02Four.F (fun y0 => g y0) n_ = (s_l02Four n_).bind g := s_l02Four.F_nat g (fun y0 => some y0) n_
def s_l02Four.out : (List Int) → CRes := fun a => ⟨encL SV.enc [.one (.own [] (.int .u8) true)] (a, ()), [encL SC.enc [] ()]⟩
def s_l02Four.ps : List PS := [.val [none]]
def s_l02Four.sA : List SA := [.v (.one (.int .i64))]
def s_l02Four.fi : FI := FIs s_l02Four.sA (List Int) (fun t => s_l02Four t.1) s_l02Four.out s_l02Four.ps
def s_l02Four.E : Env := ⟨tt, lkF [], 15, 0, [], []⟩
theorem s_l02Four.hok (hE : EOk Tryz.prog (s_l02Four.E)) : HintOk Tryz.prog s_l02Four.E (bodyOf Tryz.f105) (.a) := HintOk.n1 (Q := True) (by kernel_rfl) trivial
theorem s_l02Four.hE : EOk Tryz.prog (s_l02Four.E) := EOk.of ttOk (trivial)
theorem s_l02Four.fok : FOk Tryz.prog 105 s_l02Four.fi :=
  fokS (E := s_l02Four.E) (wy := ⟨[[some ((.int .u8), true)]], [[]], []⟩) (h := (fun gs => .a)) (G := fun t g => s_l02Four.F (fun y0 => g y0) t.1) (by kernel_rfl) s_l02Four.hE Tryz.func105 (by kernel_rfl) rfl (Nat.le_refl _) (fun t => HintOk.n1 (by kernel_rfl) (s_l02Four.hok s_l02Four.hE)) (fun t g => s_l02Four_nat g t.1) (fun t => by kernel_rfl)
/-! loop.example_g00220_spec.l02Two -/
def s_l02Two.F {R : Type} (kk : List Int → Option R) (n_ : Int) : Option R :=
  grd (gNz (256 : Int)) <|
  kk [IntKind.wrap .u8 (IntKind.wrap .i64 (Int.tdiv n_ (256 : Int))), IntKind.wrap .u8 n_]
theorem s_l02Two.F_nat {R S : Type} (g : R → Option S) (kk : List Int → Option R) (n_ : Int) : s_l02Two.F (fun y0 => (kk y0).bind g) n_ = (s_l02Two.F kk n_).bind g := by
  simp only [s_l02Two.F, grd_bind, cnd_bind, bnd_bind, non_bind]
def s_l02Two (n_ : Int) : Option (List Int) := s_l02Two.F (fun y0 => some y0) n_
theorem s_l02Two_nat {S : Type} (g : (List Int) → Option S) (n_ : Int) : s_l02Two.F (fun y0 => g y0) n_ = (s_l02Two n_).bind g := s_l02Two.F_nat g (fun y0 => some y0) n_
def s_l02Two.out : (List Int) → CRes := fun a => ⟨encL SV.enc [.one (.own [] (.int .u8) true)] (a, ()), [encL SC.enc [] ()]⟩
def s_l02Two.ps : List PS := [.val [none]]
def s_l02Two.sA : List SA := [.v (.one (.int .i64))]
def s_l02Two.fi : FI := FIs s_l02Two.sA (List Int) (fun t => s_l02Two t.1) s_l02Two.out s_l02Two.ps
def s_l02Two.E : Env := ⟨tt, lkF [], 9, 0, [], []⟩
theorem s_l02Two.hok (hE : EOk Tryz.prog (s_l02Two.E)) : HintOk Tryz.prog s_l02Two.E (bodyOf Tryz.f176) (.a) := HintOk.n1 (Q := True) (by kernel_rfl) trivial
theorem s_l02Two.hE : EOk Tryz.prog (s_l02Two.E) := EOk.of ttOk (trivial)
theorem s_l02Two.fok : FOk Tryz.prog 176 s_l02Two.fi :=
  fokS (E := s_l02Two.E) (wy := ⟨[[some ((.int .u8), true)]], [[]], []⟩) (h := (fun gs => .a)) (G := fun t g => s_l02Two.F (fun y0 => g y0) t.1) (by kernel_rfl) s_l02Two.hE Tryz.func176 (by kernel_rfl) rfl (Nat.le_refl _) (fun t => HintOk.n1 (by kernel_rfl) (s_l02Two.hok s_l02Two.hE)) (fun t g => s_l02Two_nat g t.1) (fun t => by kernel_rfl)
/-! loop.example_g00220_spec.l01Check -/
def s_l01Check.l1 {R : Type} (kke2 : List Int → Int → Int → Option R) : Nat → List Int → Int → Int → Int → Option R
  | 0, _, _, _, _ => none
  | n + 1, b, n_, i, k_ =>
    cond (decide (k_ < (8 : Int))) (
      grd (gNz (2 : Int)) <|
      cond ((Int.tmod n_ (2 : Int)) == (1 : Int)) (
        grd (gNz (2 : Int)) <|
        s_l01Check.l1 kke2 n b (iXor .i64 (IntKind.wrap .i64 (Int.tdiv n_ (2 : Int))) (3988292384 : Int)) i (IntKind.wrap .i64 (k_ + (1 : Int)))) (
        grd (gNz (2 : Int)) <|
        s_l01Check.l1 kke2 n b (IntKind.wrap .i64 (Int.tdiv n_ (2 : Int))) i (IntKind.wrap .i64 (k_ + (1 : Int))))) (kke2 b n_ i)
theorem s_l01Check.l1_nat {R S : Type} (g : R → Option S) (kke2 : List Int → Int → Int → Option R) : ∀ (n : Nat) (b : List Int) (n_ : Int) (i : Int) (k_ : Int), s_l01Check.l1 (fun y0 y1 y2 => (kke2 y0 y1 y2).bind g) n b n_ i k_ = (s_l01Check.l1 kke2 n b n_ i k_).bind g := by
  intro n
  induction n with
  | zero => intros; rfl
  | succ n ih => intros; simp only [s_l01Check.l1, grd_bind, cnd_bind, bnd_bind, non_bind, ih]
def s_l01Check.l2 {R : Type} (kke0 : Int → Option R) : Nat → List Int → Int → Int → Option R
  | 0, _, _, _ => none
  | n + 1, b, n_, i =>
    cond (decide (i < (List.length b : Int))) (
      grd (gIx i (List.length b)) <|
      s_l01Check.l1 (fun b1 n_1 i1 => s_l01Check.l2 kke0 n b1 n_1 (IntKind.wrap .i64 (i1 + (1 : Int)))) fuel b (iXor .i64 n_ (IntKind.wrap .i64 (rdE (.int .u8 : Kd) b (Int.toNat i)))) i (0 : Int)) (kke0 n_)
theorem s_l01Check.l2_nat {R S : Type} (g : R → Option S) (kke0 : Int → Option R) : ∀ (n : Nat) (b : List Int) (n_ : Int) (i : Int), s_l01Check.l2 (fun y0 => (kke0 y0).bind g) n b n_ i = (s_l01Check.l2 kke0 n b n_ i).bind g := by
  intro n
  induction n with
  | zero => intros; rfl
  | succ n ih => intros; simp only [s_l01Check.l2, grd_bind, cnd_bind, bnd_bind, non_bind, ← s_l01Check.l1_nat, ih]
def s_l01Check.F {R : Type} (kk : Int → Option R) (b : List Int) : Option R :=
  s_l01Check.l2 (fun n_ => kk (iXor .i64 n_ (4294967295 : Int))) fuel b (4294967295 : Int) (0 : Int)
theorem s_l01Check.F_nat {R S : Type} (g : R → Option S) (kk : Int → Option R) (b : List Int) : s_l01Check.F (fun y0 => (kk y0).bind g) b = (s_l01Check.F kk b).bind g := by
  simp only [s_l01Check.F, grd_bind, cnd_bind, bnd_bind, non_bind, ← s_l01Check.l2_nat]
def s_l01Check (b : List Int) : Option Int := s_l01Check.F (fun y0 => some y0) b
theorem s_l01Check_nat {S : Type} (g : Int → Option S) (b : List Int) : s_l01Check.F (fun y0 => g y0) b = (s_l01Check b).bind g := s_l01Check.F_nat g (fun y0 => some y0) b
def s_l01Check.out : Int → CRes := fun a => ⟨encL SV.enc [.one (.int .i64)] (a, ()), [encL SC.enc [] ()]⟩
def s_l01Check.ps : List PS := [.val [some ((.int .u8), false)]]
def s_l01Check.sA : List SA := [.v (.one (.slv [] (.int .u8)))]
def s_l01Check.fi : FI := FIs s_l01Check.sA (Int) (fun t => s_l01Check t.1) s_l01Check.out s_l01Check.ps
def s_l01Check.E : Env := ⟨tt, lkF [], 33, 0, [], []⟩
def s_l01Check.sh1 : SK := ⟨[.v (.one (.slv [1] (.int .u8))), .v (.one (.int .i64)), .v (.one (.int .i64)), .v (.one (.int .i64))], []⟩
def s_l01Check.sh1e2 : SK := ⟨[.v (.one (.slv [1] (.int .u8))), .v (.one (.int .i64)), .v (.one (.int .i64))], []⟩
def s_l01Check.ko1 : Ex → List CastAt × List Nat
  | .nrm => ([], [])
  | .ret => ([], [])
  | .ext i => cond (Nat.beq i 2) ([], [0, 3, 4]) ([], [])
def s_l01Check.G1 (n : Nat) (R : Type) (t : s_l01Check.sh1.T) (K : Ex → Kp → Option R) : Option R := s_l01Check.l1 (fun y0 y1 y2 => K (.ext 2) (SK.enc s_l01Check.sh1e2 ((y0, y1, y2, ()), ()))) n t.1.1 t.1.2.1 t.1.2.2.1 t.1.2.2.2.1
def s_l01Check.S1 : Sum := ⟨([], [0, 3, 4, 5]), sumF s_l01Check.sh1 (s_l01Check.G1 fuel), s_l01Check.ko1⟩
theorem s_l01Check.ok1 (hE : EOk Tryz.prog (s_l01Check.E)) : SumOk Tryz.prog s_l01Check.E (cB (cR (cR (cB (cL (cR (cB (cB (cR (cL (cR (cR (bodyOf Tryz.f177))))))))))))) (s_l01Check.S1) := by
  have hh : HintOk Tryz.prog s_l01Check.E (cB (cB (cR (cR (cB (cL (cR (cB (cB (cR (cL (cR (cR (bodyOf Tryz.f177)))))))))))))) (.a) := HintOk.n1 (Q := True) (by kernel_rfl) trivial
  have h := loopS (kin := ([], [0, 3, 4, 5])) (kout := s_l01Check.ko1) (sh := s_l01Check.sh1) (F := s_l01Check.G1) (ops_ok (hE.gv _)) (by kernel_rfl) hh (fun _ _ _ => rfl) (fun n R t K => by kernel_rfl) fuel
  exact HintOk.n1 (c := (cB (cR (cR (cB (cL (cR (cB (cB (cR (cL (cR (cR (bodyOf Tryz.f177)))))))))))))) (h := .s (s_l01Check.S1)) (P := Tryz.prog) (E := s_l01Check.E) (by kernel_rfl) h
def s_l01Check.sh2 : SK := ⟨[.v (.one (.slv [1] (.int .u8))), .v (.one (.int .i64)), .v (.one (.int .i64))], []⟩
def s_l01Check.sh2e0 : SK := ⟨[.v (.one (.int .i64))], []⟩
def s_l01Check.ko2 : Ex → List CastAt × List Nat
  | .nrm => ([], [])
  | .ret => ([], [])
  | .ext i => cond (Nat.beq i 0) ([], [3]) ([], [])
def s_l01Check.G2 (n : Nat) (R : Type) (t : s_l01Check.sh2.T) (K : Ex → Kp → Option R) : Option R := s_l01Check.l2 (fun y0 => K (.ext 0) (SK.enc s_l01Check.sh2e0 ((y0, ()), ()))) n t.1.1 t.1.2.1 t.1.2.2.1
def s_l01Check.S2 : Sum := ⟨([], [0, 3, 4]), sumF s_l01Check.sh2 (s_l01Check.G2 fuel), s_l01Check.ko2⟩
theorem s_l01Check.ok2 (hE : EOk Tryz.prog (s_l01Check.E)) : SumOk Tryz.prog s_l01Check.E (cB (cR (cL (cR (cR (bodyOf Tryz.f177)))))) (s_l01Check.S2) := by
  have hh : HintOk Tryz.prog s_l01Check.E (cB (cB (cR (cL (cR (cR (bodyOf Tryz.f177))))))) (.n (.a) (.n (.b (.n (.a) (.n (.a) (.b (.s (s_l01Check.S1)))))) (.a))) := HintOk.n1 (Q := (True) ∧ (((True) ∧ ((True) ∧ (SumOk Tryz.prog s_l01Check.E (cB (cR (cR (cB (cL (cR (cB (cB (cR (cL (cR (cR (bodyOf Tryz.f177))))))))))))) (s_l01Check.S1)))) ∧ (True))) (by kernel_rfl) ⟨trivial, ⟨⟨trivial, ⟨trivial, (s_l01Check.ok1 hE)⟩⟩, trivial⟩⟩
  have h := loopS (kin := ([], [0, 3, 4])) (kout := s_l01Check.ko2) (sh := s_l01Check.sh2) (F := s_l01Check.G2) (ops_ok (hE.gv _)) (by kernel_rfl) hh (fun _ _ _ => rfl) (fun n R t K => by kernel_rfl) fuel
  exact HintOk.n1 (c := (cB (cR (cL (cR (cR (bodyOf Tryz.f177))))))) (h := .s (s_l01Check.S2)) (P := Tryz.prog) (E := s_l01Check.E) (by kernel_rfl) h
theorem s_l01Check.hok (hE : EOk Tryz.prog (s_l01Check.E)) : HintOk Tryz.prog s_l01Check.E (bodyOf Tryz.f177) (.n (.a) (.n (.a) (.n (.n (.a) (.b (.s (s_l01Check.S2)))) (.a)))) := HintOk.n1 (Q := (True) ∧ ((True) ∧ (((True) ∧ (SumOk Tryz.prog s_l01Check.E (cB (cR (cL (cR (cR (bodyOf Tryz.f177)))))) (s_l01Check.S2))) ∧ (True)))) (by kernel_rfl) ⟨trivial, ⟨trivial, ⟨⟨trivial, (s_l01Check.ok2 hE)⟩, trivial⟩⟩⟩
theorem s_l01Check.hE : EOk Tryz.prog (s_l01Check.E) := EOk.of ttOk (trivial)
theorem s_l01Check.fok : FOk Tryz.prog 177 s_l01Check.fi :=
  fokS (E := s_l01Check.E) (wy := ⟨[[none]], [[]], []⟩) (h := (fun gs => .n (.a) (.n (.a) (.n (.n (.a) (.b (.s (s_l01Check.S2)))) (.a))))) (G := fun t g => s_l01Check.F (fun y0 => g y0) t.1) (by kernel_rfl) s_l01Check.hE Tryz.func177 (by kernel_rfl) rfl (Nat.le_refl _) (fun t => HintOk.n1 (by kernel_rfl) (s_l01Check.hok s_l01Check.hE)) (fun t g => s_l01Check_nat g t.1) (fun t => by kernel_rfl)
/-! loop.example_g00220_spec.l02Frame -/
def s_l02Frame.F {R : Type} (kk : List Int → Option R) (data : List Int) : Option R :=
  (s_l02Two (List.length data : Int)).bind fun r =>
  grd (gRm (((List.length ([] : List Int)) + (List.length r)) * 1)) <|
  grd (gRm (((List.length (([] : List Int) ++ r)) + (List.length data)) * 1)) <|
  (s_l01Check ((([] : List Int) ++ r) ++ data)).bind fun r1 =>
  (s_l02Four r1).bind fun r2 =>
  grd (gRm (((List.length r) + (List.length r2)) * 1)) <|
  grd (gRm (((List.length (r ++ r2)) + (List.length data)) * 1)) <|
  kk ((r ++ r2) ++ data)
theorem s_l02Frame.F_nat {R S : Type} (g : R → Option S) (kk : List Int → Option R) (data : List Int) : s_l02Frame.F (fun y0 => (kk y0).bind g) data = (s_l02Frame.F kk data).bind g := by
  simp only [s_l02Frame.F, grd_bind, cnd_bind, bnd_bind, non_bind]
def s_l02Frame (data : List Int) : Option (List Int) := s_l02Frame.F (fun y0 => some y0) data
theorem s_l02Frame_nat {S : Type} (g : (List Int) → Option S) (data : List Int) : s_l02Frame.F (fun y0 => g y0) data = (s_l02Frame data).bind g := s_l02Frame.F_nat g (fun y0 => some y0) data
def s_l02Frame.out : (List Int) → CRes := fun a => ⟨encL SV.enc [.one (.own [] (.int .u8) true)] (a, ()), [encL SC.enc [] ()]⟩
def s_l02Frame.ps : List PS := [.val [some ((.int .u8), false)]]
def s_l02Frame.sA : List SA := [.v (.one (.slv [] (.int .u8)))]
def s_l02Frame.fi : FI := FIs s_l02Frame.sA (List Int) (fun t => s_l02Frame t.1) s_l02Frame.out s_l02Frame.ps
def s_l02Frame.E : Env := ⟨tt, lkF [(105, s_l02Four.fi), (176, s_l02Two.fi), (177, s_l01Check.fi)], 20, 0, [], []⟩
theorem s_l02Frame.hok (hE : EOk Tryz.prog (s_l02Frame.E)) : HintOk Tryz.prog s_l02Frame.E (bodyOf Tryz.f128) (.a) := HintOk.n1 (Q := True) (by kernel_rfl) trivial
theorem s_l02Frame.hE : EOk Tryz.prog (s_l02Frame.E) := EOk.of ttOk (⟨s_l02Four.fok, ⟨s_l02Two.fok, ⟨s_l01Check.fok, trivial⟩⟩⟩)
theorem s_l02Frame.fok : FOk Tryz.prog 128 s_l02Frame.fi :=
  fokS (E := s_l02Frame.E) (wy := ⟨[[some ((.int .u8), true)]], [[]], []⟩) (h := (fun gs => .a)) (G := fun t g => s_l02Frame.F (fun y0 => g y0) t.1) (by kernel_rfl) s_l02Frame.hE Tryz.func128 (by kernel_rfl) rfl (Nat.le_refl _) (fun t => HintOk.n1 (by kernel_rfl) (s_l02Frame.hok s_l02Frame.hE)) (fun t g => s_l02Frame_nat g t.1) (fun t => by kernel_rfl)
/-! loop.example_g00220_spec.l02Frames -/
def s_l02Frames.l1 {R : Type} (kke0 : Int → List ByteArray → Option R) (kkr : Int → Int → List ByteArray → Option R) : Nat → List Int → Int → List ByteArray → Option R
  | 0, _, _, _ => none
  | n + 1, b, at_, out =>
    cond (decide (at_ < (List.length b : Int))) (
      cond (decide ((IntKind.wrap .i64 ((List.length b : Int) - at_)) < (6 : Int))) (kkr at_ (16 : Int) out) (
        grd (gIx at_ (List.length b)) <|
        grd (gIx (IntKind.wrap .i64 (at_ + (1 : Int))) (List.length b)) <|
        cond ((IntKind.wrap .i64 ((IntKind.wrap .i64 ((IntKind.wrap .i64 (rdE (.int .u8 : Kd) b (Int.toNat at_))) * (256 : Int))) + (IntKind.wrap .i64 (rdE (.int .u8 : Kd) b (Int.toNat (IntKind.wrap .i64 (at_ + (1 : Int)))))))) == (0 : Int)) (kkr at_ (8 : Int) out) (
          cond (decide ((IntKind.wrap .i64 ((IntKind.wrap .i64 ((IntKind.wrap .i64 (rdE (.int .u8 : Kd) b (Int.toNat at_))) * (256 : Int))) + (IntKind.wrap .i64 (rdE (.int .u8 : Kd) b (Int.toNat (IntKind.wrap .i64 (at_ + (1 : Int)))))))) > (200 : Int))) (kkr at_ (8 : Int) out) (
            cond (decide ((IntKind.wrap .i64 ((IntKind.wrap .i64 ((List.length b : Int) - at_)) - (6 : Int))) < (IntKind.wrap .i64 ((IntKind.wrap .i64 ((IntKind.wrap .i64 (rdE (.int .u8 : Kd) b (Int.toNat at_))) * (256 : Int))) + (IntKind.wrap .i64 (rdE (.int .u8 : Kd) b (Int.toNat (IntKind.wrap .i64 (at_ + (1 : Int)))))))))) (kkr at_ (16 : Int) out) (
              grd (gSl (IntKind.wrap .i64 (at_ + (6 : Int))) (IntKind.wrap .i64 ((IntKind.wrap .i64 (at_ + (6 : Int))) + (IntKind.wrap .i64 ((IntKind.wrap .i64 ((IntKind.wrap .i64 (rdE (.int .u8 : Kd) b (Int.toNat at_))) * (256 : Int))) + (IntKind.wrap .i64 (rdE (.int .u8 : Kd) b (Int.toNat (IntKind.wrap .i64 (at_ + (1 : Int)))))))))) (List.length b)) <|
              (s_l02Frame (sub b (IntKind.wrap .i64 (at_ + (6 : Int))) (IntKind.wrap .i64 ((IntKind.wrap .i64 (at_ + (6 : Int))) + (IntKind.wrap .i64 ((IntKind.wrap .i64 ((IntKind.wrap .i64 (rdE (.int .u8 : Kd) b (Int.toNat at_))) * (256 : Int))) + (IntKind.wrap .i64 (rdE (.int .u8 : Kd) b (Int.toNat (IntKind.wrap .i64 (at_ + (1 : Int)))))))))))).bind fun r =>
              grd (gSl at_ (IntKind.wrap .i64 ((IntKind.wrap .i64 (at_ + (6 : Int))) + (IntKind.wrap .i64 ((IntKind.wrap .i64 ((IntKind.wrap .i64 (rdE (.int .u8 : Kd) b (Int.toNat at_))) * (256 : Int))) + (IntKind.wrap .i64 (rdE (.int .u8 : Kd) b (Int.toNat (IntKind.wrap .i64 (at_ + (1 : Int)))))))))) (List.length b)) <|
              cond (!(sEq (strL r) (strL (sub b at_ (IntKind.wrap .i64 ((IntKind.wrap .i64 (at_ + (6 : Int))) + (IntKind.wrap .i64 ((IntKind.wrap .i64 ((IntKind.wrap .i64 (rdE (.int .u8 : Kd) b (Int.toNat at_))) * (256 : Int))) + (IntKind.wrap .i64 (rdE (.int .u8 : Kd) b (Int.toNat (IntKind.wrap .i64 (at_ + (1 : Int)))))))))))))) (kkr at_ (8 : Int) out) (
                grd (gRm (((List.length out) + (List.length [strL (sub b (IntKind.wrap .i64 (at_ + (6 : Int))) (IntKind.wrap .i64 ((IntKind.wrap .i64 (at_ + (6 : Int))) + (IntKind.wrap .i64 ((IntKind.wrap .i64 ((IntKind.wrap .i64 (rdE (.int .u8 : Kd) b (Int.toNat at_))) * (256 : Int))) + (IntKind.wrap .i64 (rdE (.int .u8 : Kd) b (Int.toNat (IntKind.wrap .i64 (at_ + (1 : Int)))))))))))])) * 16)) <|
                s_l02Frames.l1 kke0 kkr n b (IntKind.wrap .i64 (at_ + (IntKind.wrap .i64 ((6 : Int) + (IntKind.wrap .i64 ((IntKind.wrap .i64 ((IntKind.wrap .i64 (rdE (.int .u8 : Kd) b (Int.toNat at_))) * (256 : Int))) + (IntKind.wrap .i64 (rdE (.int .u8 : Kd) b (Int.toNat (IntKind.wrap .i64 (at_ + (1 : Int)))))))))))) (out ++ [strL (sub b (IntKind.wrap .i64 (at_ + (6 : Int))) (IntKind.wrap .i64 ((IntKind.wrap .i64 (at_ + (6 : Int))) + (IntKind.wrap .i64 ((IntKind.wrap .i64 ((IntKind.wrap .i64 (rdE (.int .u8 : Kd) b (Int.toNat at_))) * (256 : Int))) + (IntKind.wrap .i64 (rdE (.int .u8 : Kd) b (Int.toNat (IntKind.wrap .i64 (at_ + (1 : Int)))))))))))]))))))) (kke0 at_ out)
theorem s_l02Frames.l1_nat {R S : Type} (g : R → Option S) (kke0 : Int → List ByteArray → Option R) (kkr : Int → Int → List ByteArray → Option R) : ∀ (n : Nat) (b : List Int) (at_ : Int) (out : List ByteArray), s_l02Frames.l1 (fun y0 y1 => (kke0 y0 y1).bind g) (fun y0 y1 y2 => (kkr y0 y1 y2).bind g) n b at_ out = (s_l02Frames.l1 kke0 kkr n b at_ out).bind g := by
  intro n
  induction n with
  | zero => intros; rfl
  | succ n ih => intros; simp only [s_l02Frames.l1, grd_bind, cnd_bind, bnd_bind, non_bind, ih]
def s_l02Frames.F {R : Type} (kk : List ByteArray → Int → Int → Option R) (b : List Int) : Option R :=
  s_l02Frames.l1 (fun at_ out => kk out at_ (0 : Int)) (fun i i1 l => kk l i i1) fuel b (0 : Int) ([] : List ByteArray)
theorem s_l02Frames.F_nat {R S : Type} (g : R → Option S) (kk : List ByteArray → Int → Int → Option R) (b : List Int) : s_l02Frames.F (fun y0 y1 y2 => (kk y0 y1 y2).bind g) b = (s_l02Frames.F kk b).bind g := by
  simp only [s_l02Frames.F, grd_bind, cnd_bind, bnd_bind, non_bind, ← s_l02Frames.l1_nat]
def s_l02Frames (b : List Int) : Option (List ByteArray × Int × Int) := s_l02Frames.F (fun y0 y1 y2 => some (y0, y1, y2)) b
theorem s_l02Frames_nat {S : Type} (g : (List ByteArray × Int × Int) → Option S) (b : List Int) : s_l02Frames.F (fun y0 y1 y2 => g (y0, y1, y2)) b = (s_l02Frames b).bind g := s_l02Frames.F_nat g (fun y0 y1 y2 => some (y0, y1, y2)) b
def s_l02Frames.out : (List ByteArray × Int × Int) → CRes := fun a => ⟨encL SV.enc [.one (.own [] .str true), .one (.int .i64), .one (.int .i64)] (a.1, a.2.1, a.2.2, ()), [encL SC.enc [] ()]⟩
def s_l02Frames.ps : List PS := [.val [some ((.int .u8), false)]]
def s_l02Frames.sA : List SA := [.v (.one (.slv [] (.int .u8)))]
def s_l02Frames.fi : FI := FIs s_l02Frames.sA (List ByteArray × Int × Int) (fun t => s_l02Frames t.1) s_l02Frames.out s_l02Frames.ps
def s_l02Frames.E : Env := ⟨tt, lkF [(128, s_l02Frame.fi)], 84, 0, [], []⟩
def s_l02Frames.sh1 : SK := ⟨[.v (.one (.slv [1] (.int .u8))), .v (.one (.slo 0)), .v (.one (.int .i64))], [.arr .str [] true]⟩
def s_l02Frames.sh1e0 : SK := ⟨[.v (.one (.slo 0)), .v (.one (.int .i64))], [.arr .str [] true]⟩
def s_l02Frames.sh1r : SK := ⟨[.v (.one (.slo 0)), .v (.one (.int .i64)), .v (.one (.int .i64))], [.arr .str [] true]⟩
def s_l02Frames.ko1 : Ex → List CastAt × List Nat
  | .nrm => ([], [])
  | .ret => ([], [2, 3, 4])
  | .ext i => cond (Nat.beq i 0) ([], [5, 6]) ([], [])
def s_l02Frames.G1 (n : Nat) (R : Type) (t : s_l02Frames.sh1.T) (K : Ex → Kp → Option R) : Option R := s_l02Frames.l1 (fun y0 y1 => K (.ext 0) (SK.enc s_l02Frames.sh1e0 (((), y0, ()), (y1, ())))) (fun y0 y1 y2 => K .ret (SK.enc s_l02Frames.sh1r (((), y0, y1, ()), (y2, ())))) n t.1.1 t.1.2.2.1 t.2.1
def s_l02Frames.S1 : Sum := ⟨([], [0, 5, 6]), sumF s_l02Frames.sh1 (s_l02Frames.G1 fuel), s_l02Frames.ko1⟩
theorem s_l02Frames.ok1 (hE : EOk Tryz.prog (s_l02Frames.E)) : SumOk Tryz.prog s_l02Frames.E (cB (cL (cR (cR (cR (bodyOf Tryz.f135)))))) (s_l02Frames.S1) := by
  have hh : HintOk Tryz.prog s_l02Frames.E (cB (cB (cL (cR (cR (cR (bodyOf Tryz.f135))))))) (.a) := HintOk.n1 (Q := True) (by kernel_rfl) trivial
  have h := loopS (kin := ([], [0, 5, 6])) (kout := s_l02Frames.ko1) (sh := s_l02Frames.sh1) (F := s_l02Frames.G1) (ops_ok (hE.gv _)) (by kernel_rfl) hh (fun _ _ _ => rfl) (fun n R t K => by kernel_rfl) fuel
  exact HintOk.n1 (c := (cB (cL (cR (cR (cR (bodyOf Tryz.f135))))))) (h := .s (s_l02Frames.S1)) (P := Tryz.prog) (E := s_l02Frames.E) (by kernel_rfl) h
theorem s_l02Frames.hok (hE : EOk Tryz.prog (s_l02Frames.E)) : HintOk Tryz.prog s_l02Frames.E (bodyOf Tryz.f135) (.n (.a) (.n (.a) (.n (.a) (.n (.b (.s (s_l02Frames.S1))) (.a))))) := HintOk.n1 (Q := (True) ∧ ((True) ∧ ((True) ∧ ((SumOk Tryz.prog s_l02Frames.E (cB (cL (cR (cR (cR (bodyOf Tryz.f135)))))) (s_l02Frames.S1)) ∧ (True))))) (by kernel_rfl) ⟨trivial, ⟨trivial, ⟨trivial, ⟨(s_l02Frames.ok1 hE), trivial⟩⟩⟩⟩
theorem s_l02Frames.hE : EOk Tryz.prog (s_l02Frames.E) := EOk.of ttOk (⟨s_l02Frame.fok, trivial⟩)
theorem s_l02Frames.fok : FOk Tryz.prog 135 s_l02Frames.fi :=
  fokS (E := s_l02Frames.E) (wy := ⟨[[some (.str, true)], [none], [none]], [[]], []⟩) (h := (fun gs => .n (.a) (.n (.a) (.n (.a) (.n (.b (.s (s_l02Frames.S1))) (.a)))))) (G := fun t g => s_l02Frames.F (fun y0 y1 y2 => g (y0, y1, y2)) t.1) (by kernel_rfl) s_l02Frames.hE Tryz.func135 (by kernel_rfl) rfl (Nat.le_refl _) (fun t => HintOk.n1 (by kernel_rfl) (s_l02Frames.hok s_l02Frames.hE)) (fun t g => s_l02Frames_nat g t.1) (fun t => by kernel_rfl)
/-! __loop.example_g00220_spec.l02Reader_.number -/
def s_l02Reader_number.l1 {R : Type} (kke0 : Int → List Int → Int → Bool → Option R) (kkr : Int → List Int → Int → Bool → Option R) : Nat → Int → Int → Int → List Int → Int → Bool → Option R
  | 0, _, _, _, _, _, _ => none
  | n + 1, n_, out, i, r, r1, r2 =>
    cond (decide (i < n_)) (
      cond (r2) (kkr (0 : Int) r r1 true) (
        cond (decide (r1 ≥ (List.length r : Int))) (kkr (0 : Int) r r1 true) (
          grd (gIx r1 (List.length r)) <|
          s_l02Reader_number.l1 kke0 kkr n n_ (IntKind.wrap .i64 ((IntKind.wrap .i64 (out * (256 : Int))) + (IntKind.wrap .i64 (rdE (.int .u8 : Kd) r (Int.toNat r1))))) (IntKind.wrap .i64 (i + (1 : Int))) r (IntKind.wrap .i64 (r1 + (1 : Int))) r2))) (kke0 out r r1 r2)
theorem s_l02Reader_number.l1_nat {R S : Type} (g : R → Option S) (kke0 : Int → List Int → Int → Bool → Option R) (kkr : Int → List Int → Int → Bool → Option R) : ∀ (n : Nat) (n_ : Int) (out : Int) (i : Int) (r : List Int) (r1 : Int) (r2 : Bool), s_l02Reader_number.l1 (fun y0 y1 y2 y3 => (kke0 y0 y1 y2 y3).bind g) (fun y0 y1 y2 y3 => (kkr y0 y1 y2 y3).bind g) n n_ out i r r1 r2 = (s_l02Reader_number.l1 kke0 kkr n n_ out i r r1 r2).bind g := by
  intro n
  induction n with
  | zero => intros; rfl
  | succ n ih => intros; simp only [s_l02Reader_number.l1, grd_bind, cnd_bind, bnd_bind, non_bind, ih]
def s_l02Reader_number.F {R : Type} (kk : Int → List Int → Int → Bool → Option R) (r_b : List Int) (r_at : Int) (r_bad : Bool) (n_ : Int) : Option R :=
  s_l02Reader_number.l1 (fun out r r1 r2 => kk out r r1 r2) (fun i r3 r4 r5 => kk i r3 r4 r5) fuel n_ (0 : Int) (0 : Int) r_b r_at r_bad
theorem s_l02Reader_number.F_nat {R S : Type} (g : R → Option S) (kk : Int → List Int → Int → Bool → Option R) (r_b : List Int) (r_at : Int) (r_bad : Bool) (n_ : Int) : s_l02Reader_number.F (fun y0 y1 y2 y3 => (kk y0 y1 y2 y3).bind g) r_b r_at r_bad n_ = (s_l02Reader_number.F kk r_b r_at r_bad n_).bind g := by
  simp only [s_l02Reader_number.F, grd_bind, cnd_bind, bnd_bind, non_bind, ← s_l02Reader_number.l1_nat]
def s_l02Reader_number (r_b : List Int) (r_at : Int) (r_bad : Bool) (n_ : Int) : Option (Int × List Int × Int × Bool) := s_l02Reader_number.F (fun y0 y1 y2 y3 => some (y0, y1, y2, y3)) r_b r_at r_bad n_
theorem s_l02Reader_number_nat {S : Type} (g : (Int × List Int × Int × Bool) → Option S) (r_b : List Int) (r_at : Int) (r_bad : Bool) (n_ : Int) : s_l02Reader_number.F (fun y0 y1 y2 y3 => g (y0, y1, y2, y3)) r_b r_at r_bad n_ = (s_l02Reader_number r_b r_at r_bad n_).bind g := s_l02Reader_number.F_nat g (fun y0 y1 y2 y3 => some (y0, y1, y2, y3)) r_b r_at r_bad n_
def s_l02Reader_number.out : (Int × List Int × Int × Bool) → CRes := fun a => ⟨encL SV.enc [.one (.int .i64)] (a.1, ()), [encL SC.enc [.slv [1] (.int .u8), .int .i64, .bool] (a.2.1, a.2.2.1, a.2.2.2, ()), encL SC.enc [] ()]⟩
def s_l02Reader_number.ps : List PS := [.ptr [some ((.int .u8), false), none, none], .val [none]]
def s_l02Reader_number.sA : List SA := [.ptr [.slv [] (.int .u8), .int .i64, .bool], .v (.one (.int .i64))]
def s_l02Reader_number.fi : FI := FIs s_l02Reader_number.sA (Int × List Int × Int × Bool) (fun t => s_l02Reader_number t.1.1 t.1.2.1 t.1.2.2.1 t.2.1) s_l02Reader_number.out s_l02Reader_number.ps
def s_l02Reader_number.E : Env := ⟨tt, lkF [], 53, 1, [], []⟩
def s_l02Reader_number.sh1 : SK := ⟨[.v (.one (.bptr 0 0)), .v (.one (.int .i64)), .v (.one (.int .i64)), .v (.one (.int .i64))], [.box [.slv [1] (.int .u8), .int .i64, .bool]]⟩
def s_l02Reader_number.sh1e0 : SK := ⟨[.v (.one (.bptr 0 0)), .v (.one (.int .i64))], [.box [.slv [1] (.int .u8), .int .i64, .bool]]⟩
def s_l02Reader_number.sh1r : SK := ⟨[.v (.one (.bptr 0 0)), .v (.one (.int .i64))], [.box [.slv [1] (.int .u8), .int .i64, .bool]]⟩
def s_l02Reader_number.ko1 : Ex → List CastAt × List Nat
  | .nrm => ([], [])
  | .ret => ([], [0, 4])
  | .ext i => cond (Nat.beq i 0) ([], [0, 5]) ([], [])
def s_l02Reader_number.G1 (n : Nat) (R : Type) (t : s_l02Reader_number.sh1.T) (K : Ex → Kp → Option R) : Option R := s_l02Reader_number.l1 (fun y0 y1 y2 y3 => K (.ext 0) (SK.enc s_l02Reader_number.sh1e0 (((), y0, ()), ((y1, y2, y3, ()), ())))) (fun y0 y1 y2 y3 => K .ret (SK.enc s_l02Reader_number.sh1r (((), y0, ()), ((y1, y2, y3, ()), ())))) n t.1.2.1 t.1.2.2.1 t.1.2.2.2.1 t.2.1.1 t.2.1.2.1 t.2.1.2.2.1
def s_l02Reader_number.S1 : Sum := ⟨([], [0, 1, 5, 6]), sumF s_l02Reader_number.sh1 (s_l02Reader_number.G1 fuel), s_l02Reader_number.ko1⟩
theorem s_l02Reader_number.ok1 (hE : EOk Tryz.prog (s_l02Reader_number.E)) : SumOk Tryz.prog s_l02Reader_number.E (cB (cR (cL (cR (cR (bodyOf Tryz.f136)))))) (s_l02Reader_number.S1) := by
  have hh : HintOk Tryz.prog s_l02Reader_number.E (cB (cB (cR (cL (cR (cR (bodyOf Tryz.f136))))))) (.a) := HintOk.n1 (Q := True) (by kernel_rfl) trivial
  have h := loopS (kin := ([], [0, 1, 5, 6])) (kout := s_l02Reader_number.ko1) (sh := s_l02Reader_number.sh1) (F := s_l02Reader_number.G1) (ops_ok (hE.gv _)) (by kernel_rfl) hh (fun _ _ _ => rfl) (fun n R t K => by kernel_rfl) fuel
  exact HintOk.n1 (c := (cB (cR (cL (cR (cR (bodyOf Tryz.f136))))))) (h := .s (s_l02Reader_number.S1)) (P := Tryz.prog) (E := s_l02Reader_number.E) (by kernel_rfl) h
theorem s_l02Reader_number.hok (hE : EOk Tryz.prog (s_l02Reader_number.E)) : HintOk Tryz.prog s_l02Reader_number.E (bodyOf Tryz.f136) (.n (.a) (.n (.a) (.n (.n (.a) (.b (.s (s_l02Reader_number.S1)))) (.a)))) := HintOk.n1 (Q := (True) ∧ ((True) ∧ (((True) ∧ (SumOk Tryz.prog s_l02Reader_number.E (cB (cR (cL (cR (cR (bodyOf Tryz.f136)))))) (s_l02Reader_number.S1))) ∧ (True)))) (by kernel_rfl) ⟨trivial, ⟨trivial, ⟨⟨trivial, (s_l02Reader_number.ok1 hE)⟩, trivial⟩⟩⟩
theorem s_l02Reader_number.hE : EOk Tryz.prog (s_l02Reader_number.E) := EOk.of ttOk (trivial)
theorem s_l02Reader_number.fok : FOk Tryz.prog 136 s_l02Reader_number.fi :=
  fokS (E := s_l02Reader_number.E) (wy := ⟨[[none]], [[some ((.int .u8), false), none, none], []], []⟩) (h := (fun gs => .n (.a) (.n (.a) (.n (.n (.a) (.b (.s (s_l02Reader_number.S1)))) (.a))))) (G := fun t g => s_l02Reader_number.F (fun y0 y1 y2 y3 => g (y0, y1, y2, y3)) t.1.1 t.1.2.1 t.1.2.2.1 t.2.1) (by kernel_rfl) s_l02Reader_number.hE Tryz.func136 (by kernel_rfl) rfl (Nat.le_refl _) (fun t => HintOk.n1 (by kernel_rfl) (s_l02Reader_number.hok s_l02Reader_number.hE)) (fun t g => s_l02Reader_number_nat g t.1.1 t.1.2.1 t.1.2.2.1 t.2.1) (fun t => by kernel_rfl)
/-! loop.example_g00220_spec.l04Read -/
def s_l04Read.j1 {R : Type} (kkn : Int → ByteArray → Int → Bool → Int → List (El kFile) → Int → Int → Int → Int → List Int → List ByteArray → List ByteArray → List ByteArray → Option R) (kkr : Int → Int → Int → List ByteArray → List ByteArray → Option R) (i : Int) (data : ByteArray) (good : Int) (code : Int) (last : Bool) (d : Int) (d1 : List (El kFile)) (i1 : Int) (i2 : Int) (w : Int) (w1 : Int) (list : List Int) (frames : List ByteArray) (l : List ByteArray) (l1 : List ByteArray) : Option R :=
  cond (code == (8 : Int)) (kkr (8 : Int) w w1 l l1) (
    cond (code == (16 : Int)) (
      cond (!last) (kkr (8 : Int) w w1 l l1) (kkn i data good last d d1 i1 i2 w w1 list frames l l1)) (kkn i data good last d d1 i1 i2 w w1 list frames l l1))
theorem s_l04Read.j1_nat {R S : Type} (g : R → Option S) (kkn : Int → ByteArray → Int → Bool → Int → List (El kFile) → Int → Int → Int → Int → List Int → List ByteArray → List ByteArray → List ByteArray → Option R) (kkr : Int → Int → Int → List ByteArray → List ByteArray → Option R) (i : Int) (data : ByteArray) (good : Int) (code : Int) (last : Bool) (d : Int) (d1 : List (El kFile)) (i1 : Int) (i2 : Int) (w : Int) (w1 : Int) (list : List Int) (frames : List ByteArray) (l : List ByteArray) (l1 : List ByteArray) : s_l04Read.j1 (fun y0 y1 y2 y3 y4 y5 y6 y7 y8 y9 y10 y11 y12 y13 => (kkn y0 y1 y2 y3 y4 y5 y6 y7 y8 y9 y10 y11 y12 y13).bind g) (fun y0 y1 y2 y3 y4 => (kkr y0 y1 y2 y3 y4).bind g) i data good code last d d1 i1 i2 w w1 list frames l l1 = (s_l04Read.j1 kkn kkr i data good code last d d1 i1 i2 w w1 list frames l l1).bind g := by
  simp only [s_l04Read.j1, grd_bind, cnd_bind, bnd_bind, non_bind]
def s_l04Read.j2 {R : Type} (kkn : Int → ByteArray → Int → Bool → Int → List (El kFile) → Int → Int → Int → Int → List Int → List ByteArray → List ByteArray → List ByteArray → Option R) (kkr : Int → Int → Int → List ByteArray → List ByteArray → Option R) (i : Int) (data : ByteArray) (good : Int) (last : Bool) (d : Int) (d1 : List (El kFile)) (i1 : Int) (i2 : Int) (w : Int) (w1 : Int) (list : List Int) (frames : List ByteArray) (l : List ByteArray) (l1 : List ByteArray) : Option R :=
  cond (decide (i > (0 : Int))) (
    grd (gIx i (List.length list)) <|
    grd (gIx (IntKind.wrap .i64 (i - (1 : Int))) (List.length list)) <|
    cond ((rdE (.int .i64 : Kd) list (Int.toNat i)) != (IntKind.wrap .i64 ((rdE (.int .i64 : Kd) list (Int.toNat (IntKind.wrap .i64 (i - (1 : Int))))) + (1 : Int)))) (kkr (3 : Int) w w1 l l1) (kkn i data good last d d1 i1 i2 w w1 list frames l l1)) (kkn i data good last d d1 i1 i2 w w1 list frames l l1)
theorem s_l04Read.j2_nat {R S : Type} (g : R → Option S) (kkn : Int → ByteArray → Int → Bool → Int → List (El kFile) → Int → Int → Int → Int → List Int → List ByteArray → List ByteArray → List ByteArray → Option R) (kkr : Int → Int → Int → List ByteArray → List ByteArray → Option R) (i : Int) (data : ByteArray) (good : Int) (last : Bool) (d : Int) (d1 : List (El kFile)) (i1 : Int) (i2 : Int) (w : Int) (w1 : Int) (list : List Int) (frames : List ByteArray) (l : List ByteArray) (l1 : List ByteArray) : s_l04Read.j2 (fun y0 y1 y2 y3 y4 y5 y6 y7 y8 y9 y10 y11 y12 y13 => (kkn y0 y1 y2 y3 y4 y5 y6 y7 y8 y9 y10 y11 y12 y13).bind g) (fun y0 y1 y2 y3 y4 => (kkr y0 y1 y2 y3 y4).bind g) i data good last d d1 i1 i2 w w1 list frames l l1 = (s_l04Read.j2 kkn kkr i data good last d d1 i1 i2 w w1 list frames l l1).bind g := by
  simp only [s_l04Read.j2, grd_bind, cnd_bind, bnd_bind, non_bind]
def s_l04Read.j3 {R : Type} (kkn : Int → ByteArray → Int → Int → List (El kFile) → Int → Int → Int → Int → List Int → List ByteArray → List ByteArray → List ByteArray → Option R) (kkr : Int → Int → Int → List ByteArray → List ByteArray → Option R) (i : Int) (data : ByteArray) (good : Int) (first : Int) (d : Int) (d1 : List (El kFile)) (i1 : Int) (i2 : Int) (w : Int) (w1 : Int) (list : List Int) (frames : List ByteArray) (l : List ByteArray) (l1 : List ByteArray) : Option R :=
  cond (i == (0 : Int)) (kkn i data good d d1 i1 i2 first w1 list frames l l1) (
    cond (first != (IntKind.wrap .i64 (w + (List.length l : Int)))) (kkr (3 : Int) w w1 l l1) (kkn i data good d d1 i1 i2 w w1 list frames l l1))
theorem s_l04Read.j3_nat {R S : Type} (g : R → Option S) (kkn : Int → ByteArray → Int → Int → List (El kFile) → Int → Int → Int → Int → List Int → List ByteArray → List ByteArray → List ByteArray → Option R) (kkr : Int → Int → Int → List ByteArray → List ByteArray → Option R) (i : Int) (data : ByteArray) (good : Int) (first : Int) (d : Int) (d1 : List (El kFile)) (i1 : Int) (i2 : Int) (w : Int) (w1 : Int) (list : List Int) (frames : List ByteArray) (l : List ByteArray) (l1 : List ByteArray) : s_l04Read.j3 (fun y0 y1 y2 y3 y4 y5 y6 y7 y8 y9 y10 y11 y12 => (kkn y0 y1 y2 y3 y4 y5 y6 y7 y8 y9 y10 y11 y12).bind g) (fun y0 y1 y2 y3 y4 => (kkr y0 y1 y2 y3 y4).bind g) i data good first d d1 i1 i2 w w1 list frames l l1 = (s_l04Read.j3 kkn kkr i data good first d d1 i1 i2 w w1 list frames l l1).bind g := by
  simp only [s_l04Read.j3, grd_bind, cnd_bind, bnd_bind, non_bind]
def s_l04Read.l4 {R : Type} (kke0 : Int → Int → Int → Int → List ByteArray → List ByteArray → Option R) (kkr : Int → Int → Int → List ByteArray → List ByteArray → Option R) : Nat → Int → Int → List (El kFile) → Int → Int → Int → Int → List Int → List ByteArray → List ByteArray → Option R
  | 0, _, _, _, _, _, _, _, _, _, _ => none
  | n + 1, i, d, d1, i1, i2, w, w1, list, l, l1 =>
    cond (decide (i < (List.length list : Int))) (
      grd (gIx i (List.length list)) <|
      (s_l04Data d d1 (rdE (.int .i64 : Kd) list (Int.toNat i))).bind fun r =>
      (s_l02Frames (bytesL r)).bind fun r1 =>
      s_l04Read.j1 (fun i3 data good last d2 d3 i4 i5 w2 w3 list1 frames l2 l3 =>
        s_l04Read.j2 (fun i6 data1 good1 last1 d4 d5 i7 i8 w4 w5 list2 frames1 l4 l5 =>
          cond ((List.length frames1 : Int) == (0 : Int)) (
            cond (!last1) (kkr (3 : Int) w4 w5 l4 l5) (
              grd (gIx i6 (List.length list2)) <|
              (s_l04Name (rdE (.int .i64 : Kd) list2 (Int.toNat i6))).bind fun r2 =>
              grd (gRm (((List.length l5) + (List.length [r2])) * 16)) <|
              kkr (0 : Int) w4 (ByteArray.size data1 : Int) l4 (l5 ++ [r2]))) (
            grd (gIx (0 : Int) (List.length frames1)) <|
            cond ((ByteArray.size (rdE (.str : Kd) frames1 (Int.toNat (0 : Int))) : Int) != (4 : Int)) (kkr (3 : Int) w4 w5 l4 l5) (
              grd (gIx (0 : Int) (List.length frames1)) <|
              (s_l02Reader_number (bytesL (rdE (.str : Kd) frames1 (Int.toNat (0 : Int)))) (0 : Int) false (4 : Int)).bind fun r3 =>
              s_l04Read.j3 (fun i9 data2 good2 d6 d7 i10 i11 w6 w7 list3 frames2 l6 l7 =>
                grd (gIx i9 (List.length list3)) <|
                (s_l04Name (rdE (.int .i64 : Kd) list3 (Int.toNat i9))).bind fun r4 =>
                grd (gRm (((List.length l7) + (List.length [r4])) * 16)) <|
                grd (gSl (1 : Int) (List.length frames2 : Int) (List.length frames2)) <|
                grd (gRm (((List.length l6) + (List.length (sub frames2 (1 : Int) (List.length frames2 : Int)))) * 16)) <|
                s_l04Read.l4 kke0 kkr n (IntKind.wrap .i64 (i9 + (1 : Int))) d6 d7 i10 i11 w6 (IntKind.wrap .i64 ((ByteArray.size data2 : Int) - good2)) list3 (l6 ++ (sub frames2 (1 : Int) (List.length frames2 : Int))) (l7 ++ [r4])) (fun i12 i13 i14 l8 l9 => kkr i12 i13 i14 l8 l9) i6 data1 good1 r3.1 d4 d5 i7 i8 w4 w5 list2 frames1 l4 l5))) (fun i15 i16 i17 l10 l11 => kkr i15 i16 i17 l10 l11) i3 data good last d2 d3 i4 i5 w2 w3 list1 frames l2 l3) (fun i18 i19 i20 l12 l13 => kkr i18 i19 i20 l12 l13) i r r1.2.1 r1.2.2 (i == (IntKind.wrap .i64 ((List.length list : Int) - (1 : Int)))) d d1 i1 i2 w w1 list r1.1 l l1) (kke0 i1 i2 w w1 l l1)
theorem s_l04Read.l4_nat {R S : Type} (g : R → Option S) (kke0 : Int → Int → Int → Int → List ByteArray → List ByteArray → Option R) (kkr : Int → Int → Int → List ByteArray → List ByteArray → Option R) : ∀ (n : Nat) (i : Int) (d : Int) (d1 : List (El kFile)) (i1 : Int) (i2 : Int) (w : Int) (w1 : Int) (list : List Int) (l : List ByteArray) (l1 : List ByteArray), s_l04Read.l4 (fun y0 y1 y2 y3 y4 y5 => (kke0 y0 y1 y2 y3 y4 y5).bind g) (fun y0 y1 y2 y3 y4 => (kkr y0 y1 y2 y3 y4).bind g) n i d d1 i1 i2 w w1 list l l1 = (s_l04Read.l4 kke0 kkr n i d d1 i1 i2 w w1 list l l1).bind g := by
  intro n
  induction n with
  | zero => intros; rfl
  | succ n ih => intros; simp only [s_l04Read.l4, grd_bind, cnd_bind, bnd_bind, non_bind, ← s_l04Read.j1_nat, ← s_l04Read.j2_nat, ← s_l04Read.j3_nat, ih]
def s_l04Read.F {R : Type} (kk : Int → List ByteArray → List ByteArray → Int → Int → Option R) (d_Room : Int) (d_Files : List (El kFile)) : Option R :=
  (s_l04Segments d_Room d_Files).bind fun r =>
  s_l04Read.l4 (fun i i1 w w1 l l1 => kk w l l1 w1 (0 : Int)) (fun i2 i3 i4 l2 l3 => kk i3 l2 l3 i4 i2) fuel (0 : Int) d_Room d_Files (0 : Int) (0 : Int) (0 : Int) (0 : Int) r ([] : List ByteArray) ([] : List ByteArray)
theorem s_l04Read.F_nat {R S : Type} (g : R → Option S) (kk : Int → List ByteArray → List ByteArray → Int → Int → Option R) (d_Room : Int) (d_Files : List (El kFile)) : s_l04Read.F (fun y0 y1 y2 y3 y4 => (kk y0 y1 y2 y3 y4).bind g) d_Room d_Files = (s_l04Read.F kk d_Room d_Files).bind g := by
  simp only [s_l04Read.F, grd_bind, cnd_bind, bnd_bind, non_bind, ← s_l04Read.l4_nat]
def s_l04Read (d_Room : Int) (d_Files : List (El kFile)) : Option (Int × List ByteArray × List ByteArray × Int × Int) := s_l04Read.F (fun y0 y1 y2 y3 y4 => some (y0, y1, y2, y3, y4)) d_Room d_Files
theorem s_l04Read_nat {S : Type} (g : (Int × List ByteArray × List ByteArray × Int × Int) → Option S) (d_Room : Int) (d_Files : List (El kFile)) : s_l04Read.F (fun y0 y1 y2 y3 y4 => g (y0, y1, y2, y3, y4)) d_Room d_Files = (s_l04Read d_Room d_Files).bind g := s_l04Read.F_nat g (fun y0 y1 y2 y3 y4 => some (y0, y1, y2, y3, y4)) d_Room d_Files
def s_l04Read.out : (Int × List ByteArray × List ByteArray × Int × Int) → CRes := fun a => ⟨encL SV.enc [.agg [.int .i64, .own [] .str true, .own [] .str true, .int .i64], .one (.int .i64)] ((a.1, a.2.1, a.2.2.1, a.2.2.2.1, ()), a.2.2.2.2, ()), [encL SC.enc [] ()]⟩
def s_l04Read.ps : List PS := [.val [none, some (kFile, false)]]
def s_l04Read.sA : List SA := [.v (.agg [.int .i64, .slv [] kFile])]
def s_l04Read.fi : FI := FIs s_l04Read.sA (Int × List ByteArray × List ByteArray × Int × Int) (fun t => s_l04Read t.1.1 t.1.2.1) s_l04Read.out s_l04Read.ps
def s_l04Read.E : Env := ⟨tt, lkF [(126, s_l04Segments.fi), (129, s_l04Name.fi), (131, s_l04Data.fi), (135, s_l02Frames.fi), (136, s_l02Reader_number.fi)], 139, 0, [], []⟩
def s_l04Read.sh1 : SK := ⟨[.v (.one (.bptr 0 0)), .v (.one (.bptr 1 0)), .v (.one (.bptr 2 0)), .v (.one (.slo 3)), .v (.one (.int .i64)), .v (.one (.str)), .v (.one (.slo 4)), .v (.one (.int .i64)), .v (.one (.int .i64)), .v (.one (.bool))], [.box [.int .i64, .slv [1] kFile], .box [.int .i64, .nil, .nil, .int .i64], .box [.int .i64, .slo 5, .slo 6, .int .i64], .arr (.int .i64) [] true, .arr .str [] true, .arr .str [] true, .arr .str [] true]⟩
def s_l04Read.sh1n : SK := ⟨[.v (.one (.bptr 0 0)), .v (.one (.bptr 1 0)), .v (.one (.bptr 2 0)), .v (.one (.slo 3)), .v (.one (.int .i64)), .v (.one (.str)), .v (.one (.slo 4)), .v (.one (.int .i64)), .v (.one (.bool))], [.box [.int .i64, .slv [1] kFile], .box [.int .i64, .nil, .nil, .int .i64], .box [.int .i64, .slo 5, .slo 6, .int .i64], .arr (.int .i64) [] true, .arr .str [] true, .arr .str [] true, .arr .str [] true]⟩
def s_l04Read.sh1r : SK := ⟨[.v (.one (.bptr 0 0)), .v (.one (.int .i64))], [.box [.int .i64, .slo 1, .slo 2, .int .i64], .arr .str [] true, .arr .str [] true]⟩
def s_l04Read.ko1 : Ex → List CastAt × List Nat
  | .nrm => ([], [1, 2, 4, 5, 6, 7, 8, 9, 11])
  | .ret => ([], [2, 3])
  | .ext i => ([], [])
def s_l04Read.G1 (R : Type) (t : s_l04Read.sh1.T) (K : Ex → Kp → Option R) : Option R := s_l04Read.j1 (fun y0 y1 y2 y3 y4 y5 y6 y7 y8 y9 y10 y11 y12 y13 => K .nrm (SK.enc s_l04Read.sh1n (((), (), (), (), y0, y1, (), y2, y3, ()), ((y4, y5, ()), (y6, (), (), y7, ()), (y8, (), (), y9, ()), y10, y11, y12, y13, ())))) (fun y0 y1 y2 y3 y4 => K .ret (SK.enc s_l04Read.sh1r (((), y0, ()), ((y1, (), (), y2, ()), y3, y4, ())))) t.1.2.2.2.2.1 t.1.2.2.2.2.2.1 t.1.2.2.2.2.2.2.2.1 t.1.2.2.2.2.2.2.2.2.1 t.1.2.2.2.2.2.2.2.2.2.1 t.2.1.1 t.2.1.2.1 t.2.2.1.1 t.2.2.1.2.2.2.1 t.2.2.2.1.1 t.2.2.2.1.2.2.2.1 t.2.2.2.2.1 t.2.2.2.2.2.1 t.2.2.2.2.2.2.1 t.2.2.2.2.2.2.2.1
def s_l04Read.S1 : Sum := ⟨([], [1, 2, 4, 5, 6, 7, 8, 9, 10, 11]), sumF s_l04Read.sh1 (s_l04Read.G1), s_l04Read.ko1⟩
theorem s_l04Read.ok1 (hE : EOk Tryz.prog (s_l04Read.E)) : SumOk Tryz.prog s_l04Read.E (cL (cR (cR (cR (cB (cL (cR (cB (cB (cR (cL (cR (cR (cR (bodyOf Tryz.f88))))))))))))))) (s_l04Read.S1) := by
  have hh : HintOk Tryz.prog s_l04Read.E (cL (cR (cR (cR (cB (cL (cR (cB (cB (cR (cL (cR (cR (cR (bodyOf Tryz.f88))))))))))))))) (.a) := HintOk.n1 (Q := True) (by kernel_rfl) trivial
  exact sumS (kin := ([], [1, 2, 4, 5, 6, 7, 8, 9, 10, 11])) (kout := s_l04Read.ko1) (sh := s_l04Read.sh1) (F := s_l04Read.G1) (ops_ok (hE.gv _)) (by kernel_rfl) hh (fun R t K => by kernel_rfl)
def s_l04Read.sh2 : SK := ⟨[.v (.one (.bptr 0 0)), .v (.one (.bptr 1 0)), .v (.one (.bptr 2 0)), .v (.one (.slo 3)), .v (.one (.int .i64)), .v (.one (.str)), .v (.one (.slo 4)), .v (.one (.int .i64)), .v (.one (.bool))], [.box [.int .i64, .slv [1] kFile], .box [.int .i64, .nil, .nil, .int .i64], .box [.int .i64, .slo 5, .slo 6, .int .i64], .arr (.int .i64) [] true, .arr .str [] true, .arr .str [] true, .arr .str [] true]⟩
def s_l04Read.sh2n : SK := ⟨[.v (.one (.bptr 0 0)), .v (.one (.bptr 1 0)), .v (.one (.bptr 2 0)), .v (.one (.slo 3)), .v (.one (.int .i64)), .v (.one (.str)), .v (.one (.slo 4)), .v (.one (.int .i64)), .v (.one (.bool))], [.box [.int .i64, .slv [1] kFile], .box [.int .i64, .nil, .nil, .int .i64], .box [.int .i64, .slo 5, .slo 6, .int .i64], .arr (.int .i64) [] true, .arr .str [] true, .arr .str [] true, .arr .str [] true]⟩
def s_l04Read.sh2r : SK := ⟨[.v (.one (.bptr 0 0)), .v (.one (.int .i64))], [.box [.int .i64, .slo 1, .slo 2, .int .i64], .arr .str [] true, .arr .str [] true]⟩
def s_l04Read.ko2 : Ex → List CastAt × List Nat
  | .nrm => ([], [1, 2, 4, 5, 6, 7, 8, 9, 11])
  | .ret => ([], [2, 3])
  | .ext i => ([], [])
def s_l04Read.G2 (R : Type) (t : s_l04Read.sh2.T) (K : Ex → Kp → Option R) : Option R := s_l04Read.j2 (fun y0 y1 y2 y3 y4 y5 y6 y7 y8 y9 y10 y11 y12 y13 => K .nrm (SK.enc s_l04Read.sh2n (((), (), (), (), y0, y1, (), y2, y3, ()), ((y4, y5, ()), (y6, (), (), y7, ()), (y8, (), (), y9, ()), y10, y11, y12, y13, ())))) (fun y0 y1 y2 y3 y4 => K .ret (SK.enc s_l04Read.sh2r (((), y0, ()), ((y1, (), (), y2, ()), y3, y4, ())))) t.1.2.2.2.2.1 t.1.2.2.2.2.2.1 t.1.2.2.2.2.2.2.2.1 t.1.2.2.2.2.2.2.2.2.1 t.2.1.1 t.2.1.2.1 t.2.2.1.1 t.2.2.1.2.2.2.1 t.2.2.2.1.1 t.2.2.2.1.2.2.2.1 t.2.2.2.2.1 t.2.2.2.2.2.1 t.2.2.2.2.2.2.1 t.2.2.2.2.2.2.2.1
def s_l04Read.S2 : Sum := ⟨([], [1, 2, 4, 5, 6, 7, 8, 9, 11]), sumF s_l04Read.sh2 (s_l04Read.G2), s_l04Read.ko2⟩
theorem s_l04Read.ok2 (hE : EOk Tryz.prog (s_l04Read.E)) : SumOk Tryz.prog s_l04Read.E (cL (cR (cR (cR (cR (cB (cL (cR (cB (cB (cR (cL (cR (cR (cR (bodyOf Tryz.f88)))))))))))))))) (s_l04Read.S2) := by
  have hh : HintOk Tryz.prog s_l04Read.E (cL (cR (cR (cR (cR (cB (cL (cR (cB (cB (cR (cL (cR (cR (cR (bodyOf Tryz.f88)))))))))))))))) (.a) := HintOk.n1 (Q := True) (by kernel_rfl) trivial
  exact sumS (kin := ([], [1, 2, 4, 5, 6, 7, 8, 9, 11])) (kout := s_l04Read.ko2) (sh := s_l04Read.sh2) (F := s_l04Read.G2) (ops_ok (hE.gv _)) (by kernel_rfl) hh (fun R t K => by kernel_rfl)
def s_l04Read.sh3 : SK := ⟨[.v (.one (.bptr 0 0)), .v (.one (.bptr 1 0)), .v (.one (.bptr 2 0)), .v (.one (.slo 3)), .v (.one (.int .i64)), .v (.one (.str)), .v (.one (.slo 4)), .v (.one (.int .i64)), .v (.one (.int .i64))], [.box [.int .i64, .slv [1] kFile], .box [.int .i64, .nil, .nil, .int .i64], .box [.int .i64, .slo 5, .slo 6, .int .i64], .arr (.int .i64) [] true, .arr .str [] true, .arr .str [] true, .arr .str [] true]⟩
def s_l04Read.sh3n : SK := ⟨[.v (.one (.bptr 0 0)), .v (.one (.bptr 1 0)), .v (.one (.bptr 2 0)), .v (.one (.slo 3)), .v (.one (.int .i64)), .v (.one (.str)), .v (.one (.slo 4)), .v (.one (.int .i64))], [.box [.int .i64, .slv [1] kFile], .box [.int .i64, .nil, .nil, .int .i64], .box [.int .i64, .slo 5, .slo 6, .int .i64], .arr (.int .i64) [] true, .arr .str [] true, .arr .str [] true, .arr .str [] true]⟩
def s_l04Read.sh3r : SK := ⟨[.v (.one (.bptr 0 0)), .v (.one (.int .i64))], [.box [.int .i64, .slo 1, .slo 2, .int .i64], .arr .str [] true, .arr .str [] true]⟩
def s_l04Read.ko3 : Ex → List CastAt × List Nat
  | .nrm => ([], [1, 2, 4, 5, 6, 7, 8, 9])
  | .ret => ([], [2, 3])
  | .ext i => ([], [])
def s_l04Read.G3 (R : Type) (t : s_l04Read.sh3.T) (K : Ex → Kp → Option R) : Option R := s_l04Read.j3 (fun y0 y1 y2 y3 y4 y5 y6 y7 y8 y9 y10 y11 y12 => K .nrm (SK.enc s_l04Read.sh3n (((), (), (), (), y0, y1, (), y2, ()), ((y3, y4, ()), (y5, (), (), y6, ()), (y7, (), (), y8, ()), y9, y10, y11, y12, ())))) (fun y0 y1 y2 y3 y4 => K .ret (SK.enc s_l04Read.sh3r (((), y0, ()), ((y1, (), (), y2, ()), y3, y4, ())))) t.1.2.2.2.2.1 t.1.2.2.2.2.2.1 t.1.2.2.2.2.2.2.2.1 t.1.2.2.2.2.2.2.2.2.1 t.2.1.1 t.2.1.2.1 t.2.2.1.1 t.2.2.1.2.2.2.1 t.2.2.2.1.1 t.2.2.2.1.2.2.2.1 t.2.2.2.2.1 t.2.2.2.2.2.1 t.2.2.2.2.2.2.1 t.2.2.2.2.2.2.2.1
def s_l04Read.S3 : Sum := ⟨([], [1, 2, 4, 5, 6, 7, 8, 9, 13]), sumF s_l04Read.sh3 (s_l04Read.G3), s_l04Read.ko3⟩
theorem s_l04Read.ok3 (hE : EOk Tryz.prog (s_l04Read.E)) : SumOk Tryz.prog s_l04Read.E (cL (cR (cR (cR (cR (cR (cR (cR (cR (cR (cB (cL (cR (cB (cB (cR (cL (cR (cR (cR (bodyOf Tryz.f88))))))))))))))))))))) (s_l04Read.S3) := by
  have hh : HintOk Tryz.prog s_l04Read.E (cL (cR (cR (cR (cR (cR (cR (cR (cR (cR (cB (cL (cR (cB (cB (cR (cL (cR (cR (cR (bodyOf Tryz.f88))))))))))))))))))))) (.a) := HintOk.n1 (Q := True) (by kernel_rfl) trivial
  exact sumS (kin := ([], [1, 2, 4, 5, 6, 7, 8, 9, 13])) (kout := s_l04Read.ko3) (sh := s_l04Read.sh3) (F := s_l04Read.G3) (ops_ok (hE.gv _)) (by kernel_rfl) hh (fun R t K => by kernel_rfl)
def s_l04Read.sh4 : SK := ⟨[.v (.one (.bptr 0 0)), .v (.one (.bptr 1 0)), .v (.one (.bptr 2 0)), .v (.one (.slo 3)), .v (.one (.int .i64))], [.box [.int .i64, .slv [1] kFile], .box [.int .i64, .nil, .nil, .int .i64], .box [.int .i64, .slo 4, .slo 5, .int .i64], .arr (.int .i64) [] true, .arr .str [] true, .arr .str [] true]⟩
def s_l04Read.sh4e0 : SK := ⟨[.v (.one (.bptr 0 0)), .v (.one (.bptr 1 0))], [.box [.int .i64, .nil, .nil, .int .i64], .box [.int .i64, .slo 2, .slo 3, .int .i64], .arr .str [] true, .arr .str [] true]⟩
def s_l04Read.sh4r : SK := ⟨[.v (.one (.bptr 0 0)), .v (.one (.int .i64))], [.box [.int .i64, .slo 1, .slo 2, .int .i64], .arr .str [] true, .arr .str [] true]⟩
def s_l04Read.ko4 : Ex → List CastAt × List Nat
  | .nrm => ([], [])
  | .ret => ([], [2, 3])
  | .ext i => cond (Nat.beq i 0) ([], [2, 4]) ([], [])
def s_l04Read.G4 (n : Nat) (R : Type) (t : s_l04Read.sh4.T) (K : Ex → Kp → Option R) : Option R := s_l04Read.l4 (fun y0 y1 y2 y3 y4 y5 => K (.ext 0) (SK.enc s_l04Read.sh4e0 (((), (), ()), ((y0, (), (), y1, ()), (y2, (), (), y3, ()), y4, y5, ())))) (fun y0 y1 y2 y3 y4 => K .ret (SK.enc s_l04Read.sh4r (((), y0, ()), ((y1, (), (), y2, ()), y3, y4, ())))) n t.1.2.2.2.2.1 t.2.1.1 t.2.1.2.1 t.2.2.1.1 t.2.2.1.2.2.2.1 t.2.2.2.1.1 t.2.2.2.1.2.2.2.1 t.2.2.2.2.1 t.2.2.2.2.2.1 t.2.2.2.2.2.2.1
def s_l04Read.S4 : Sum := ⟨([], [1, 2, 4, 5, 6]), sumF s_l04Read.sh4 (s_l04Read.G4 fuel), s_l04Read.ko4⟩
theorem s_l04Read.ok4 (hE : EOk Tryz.prog (s_l04Read.E)) : SumOk Tryz.prog s_l04Read.E (cB (cR (cL (cR (cR (cR (bodyOf Tryz.f88))))))) (s_l04Read.S4) := by
  have hh : HintOk Tryz.prog s_l04Read.E (cB (cB (cR (cL (cR (cR (cR (bodyOf Tryz.f88)))))))) (.n (.a) (.n (.b (.n (.a) (.n (.a) (.n (.a) (.n (.s (s_l04Read.S1)) (.n (.s (s_l04Read.S2)) (.n (.a) (.n (.a) (.n (.a) (.n (.a) (.n (.s (s_l04Read.S3)) (.a)))))))))))) (.a))) := HintOk.n1 (Q := (True) ∧ (((True) ∧ ((True) ∧ ((True) ∧ ((SumOk Tryz.prog s_l04Read.E (cL (cR (cR (cR (cB (cL (cR (cB (cB (cR (cL (cR (cR (cR (bodyOf Tryz.f88))))))))))))))) (s_l04Read.S1)) ∧ ((SumOk Tryz.prog s_l04Read.E (cL (cR (cR (cR (cR (cB (cL (cR (cB (cB (cR (cL (cR (cR (cR (bodyOf Tryz.f88)))))))))))))))) (s_l04Read.S2)) ∧ ((True) ∧ ((True) ∧ ((True) ∧ ((True) ∧ ((SumOk Tryz.prog s_l04Read.E (cL (cR (cR (cR (cR (cR (cR (cR (cR (cR (cB (cL (cR (cB (cB (cR (cL (cR (cR (cR (bodyOf Tryz.f88))))))))))))))))))))) (s_l04Read.S3)) ∧ (True))))))))))) ∧ (True))) (by kernel_rfl) ⟨trivial, ⟨⟨trivial, ⟨trivial, ⟨trivial, ⟨(s_l04Read.ok1 hE), ⟨(s_l04Read.ok2 hE), ⟨trivial, ⟨trivial, ⟨trivial, ⟨trivial, ⟨(s_l04Read.ok3 hE), trivial⟩⟩⟩⟩⟩⟩⟩⟩⟩⟩, trivial⟩⟩
  have h := loopS (kin := ([], [1, 2, 4, 5, 6])) (kout := s_l04Read.ko4) (sh := s_l04Read.sh4) (F := s_l04Read.G4) (ops_ok (hE.gv _)) (by kernel_rfl) hh (fun _ _ _ => rfl) (fun n R t K => by kernel_rfl) fuel
  exact HintOk.n1 (c := (cB (cR (cL (cR (cR (cR (bodyOf Tryz.f88)))))))) (h := .s (s_l04Read.S4)) (P := Tryz.prog) (E := s_l04Read.E) (by kernel_rfl) h
theorem s_l04Read.hok (hE : EOk Tryz.prog (s_l04Read.E)) : HintOk Tryz.prog s_l04Read.E (bodyOf Tryz.f88) (.n (.a) (.n (.a) (.n (.a) (.n (.n (.a) (.b (.s (s_l04Read.S4)))) (.a))))) := HintOk.n1 (Q := (True) ∧ ((True) ∧ ((True) ∧ (((True) ∧ (SumOk Tryz.prog s_l04Read.E (cB (cR (cL (cR (cR (cR (bodyOf Tryz.f88))))))) (s_l04Read.S4))) ∧ (True))))) (by kernel_rfl) ⟨trivial, ⟨trivial, ⟨trivial, ⟨⟨trivial, (s_l04Read.ok4 hE)⟩, trivial⟩⟩⟩⟩
theorem s_l04Read.hE : EOk Tryz.prog (s_l04Read.E) := EOk.of ttOk (⟨s_l04Segments.fok, ⟨s_l04Name.fok, ⟨s_l04Data.fok, ⟨s_l02Frames.fok, ⟨s_l02Reader_number.fok, trivial⟩⟩⟩⟩⟩)
theorem s_l04Read.fok : FOk Tryz.prog 88 s_l04Read.fi :=
  fokS (E := s_l04Read.E) (wy := ⟨[[none, some (.str, true), some (.str, true), none], [none]], [[]], []⟩) (h := (fun gs => .n (.a) (.n (.a) (.n (.a) (.n (.n (.a) (.b (.s (s_l04Read.S4)))) (.a)))))) (G := fun t g => s_l04Read.F (fun y0 y1 y2 y3 y4 => g (y0, y1, y2, y3, y4)) t.1.1 t.1.2.1) (by kernel_rfl) s_l04Read.hE Tryz.func88 (by kernel_rfl) rfl (Nat.le_refl _) (fun t => HintOk.n1 (by kernel_rfl) (s_l04Read.hok s_l04Read.hE)) (fun t g => s_l04Read_nat g t.1.1 t.1.2.1) (fun t => by kernel_rfl)
/-! loop.example_g00220_spec.WalRead -/
def s_WalRead.F {R : Type} (kk : Int → List ByteArray → List ByteArray → Int → Int → Option R) (d_Room : Int) (d_Files : List (El kFile)) : Option R :=
  (s_DiskOK d_Room d_Files).bind fun r =>
  cond (!r) (kk (0 : Int) [] [] (0 : Int) (1 : Int)) (
    (s_l04Read d_Room d_Files).bind fun r1 =>
    cond (r1.2.2.2.2 != (0 : Int)) (kk (0 : Int) [] [] (0 : Int) r1.2.2.2.2) (kk r1.1 r1.2.1 r1.2.2.1 r1.2.2.2.1 (0 : Int)))
theorem s_WalRead.F_nat {R S : Type} (g : R → Option S) (kk : Int → List ByteArray → List ByteArray → Int → Int → Option R) (d_Room : Int) (d_Files : List (El kFile)) : s_WalRead.F (fun y0 y1 y2 y3 y4 => (kk y0 y1 y2 y3 y4).bind g) d_Room d_Files = (s_WalRead.F kk d_Room d_Files).bind g := by
  simp only [s_WalRead.F, grd_bind, cnd_bind, bnd_bind, non_bind]
def s_WalRead (d_Room : Int) (d_Files : List (El kFile)) : Option (Int × List ByteArray × List ByteArray × Int × Int) := s_WalRead.F (fun y0 y1 y2 y3 y4 => some (y0, y1, y2, y3, y4)) d_Room d_Files
theorem s_WalRead_nat {S : Type} (g : (Int × List ByteArray × List ByteArray × Int × Int) → Option S) (d_Room : Int) (d_Files : List (El kFile)) : s_WalRead.F (fun y0 y1 y2 y3 y4 => g (y0, y1, y2, y3, y4)) d_Room d_Files = (s_WalRead d_Room d_Files).bind g := s_WalRead.F_nat g (fun y0 y1 y2 y3 y4 => some (y0, y1, y2, y3, y4)) d_Room d_Files
def s_WalRead.out : (Int × List ByteArray × List ByteArray × Int × Int) → CRes := fun a => ⟨encL SV.enc [.agg [.int .i64, .own [] .str true, .own [] .str true, .int .i64], .one (.int .i64)] ((a.1, a.2.1, a.2.2.1, a.2.2.2.1, ()), a.2.2.2.2, ()), [encL SC.enc [] ()]⟩
def s_WalRead.ps : List PS := [.val [none, some (kFile, false)]]
def s_WalRead.sA : List SA := [.v (.agg [.int .i64, .slv [] kFile])]
def s_WalRead.fi : FI := FIs s_WalRead.sA (Int × List ByteArray × List ByteArray × Int × Int) (fun t => s_WalRead t.1.1 t.1.2.1) s_WalRead.out s_WalRead.ps
def s_WalRead.E : Env := ⟨tt, lkF [(87, s_DiskOK.fi), (88, s_l04Read.fi)], 20, 0, [], []⟩
theorem s_WalRead.hok (hE : EOk Tryz.prog (s_WalRead.E)) : HintOk Tryz.prog s_WalRead.E (bodyOf Tryz.f43) (.a) := HintOk.n1 (Q := True) (by kernel_rfl) trivial
theorem s_WalRead.hE : EOk Tryz.prog (s_WalRead.E) := EOk.of ttOk (⟨s_DiskOK.fok, ⟨s_l04Read.fok, trivial⟩⟩)
theorem s_WalRead.fok : FOk Tryz.prog 43 s_WalRead.fi :=
  fokS (E := s_WalRead.E) (wy := ⟨[[none, some (.str, true), some (.str, true), none], [none]], [[]], []⟩) (h := (fun gs => .a)) (G := fun t g => s_WalRead.F (fun y0 y1 y2 y3 y4 => g (y0, y1, y2, y3, y4)) t.1.1 t.1.2.1) (by kernel_rfl) s_WalRead.hE Tryz.func43 (by kernel_rfl) rfl (Nat.le_refl _) (fun t => HintOk.n1 (by kernel_rfl) (s_WalRead.hok s_WalRead.hE)) (fun t g => s_WalRead_nat g t.1.1 t.1.2.1) (fun t => by kernel_rfl)
/-! loop.example_g00220_spec.l02Members -/
def s_l02Members.l1 {R : Type} (kke0 : List Int → Option R) (kkr : Bool → List Int → Option R) : Nat → ByteArray → Int → List Int → Option R
  | 0, _, _, _ => none
  | n + 1, data, i, out =>
    cond (decide (i < (ByteArray.size data : Int))) (
      grd (gIx i (ByteArray.size data)) <|
      (s_l01In (IntKind.wrap .i64 (byteAt data i)) (0 : Int) (6 : Int)).bind fun r =>
      cond (!r) (kkr false ([] : List Int)) (
        cond (decide (i > (0 : Int))) (
          grd (gIx (IntKind.wrap .i64 (i - (1 : Int))) (ByteArray.size data)) <|
          grd (gIx i (ByteArray.size data)) <|
          cond (decide ((byteAt data (IntKind.wrap .i64 (i - (1 : Int)))) ≥ (byteAt data i))) (kkr false ([] : List Int)) (
            grd (gIx i (ByteArray.size data)) <|
            grd (gRm (((List.length out) + (List.length [IntKind.wrap .i64 (byteAt data i)])) * 8)) <|
            s_l02Members.l1 kke0 kkr n data (IntKind.wrap .i64 (i + (1 : Int))) (out ++ [IntKind.wrap .i64 (byteAt data i)]))) (
          grd (gIx i (ByteArray.size data)) <|
          grd (gRm (((List.length out) + (List.length [IntKind.wrap .i64 (byteAt data i)])) * 8)) <|
          s_l02Members.l1 kke0 kkr n data (IntKind.wrap .i64 (i + (1 : Int))) (out ++ [IntKind.wrap .i64 (byteAt data i)])))) (kke0 out)
theorem s_l02Members.l1_nat {R S : Type} (g : R → Option S) (kke0 : List Int → Option R) (kkr : Bool → List Int → Option R) : ∀ (n : Nat) (data : ByteArray) (i : Int) (out : List Int), s_l02Members.l1 (fun y0 => (kke0 y0).bind g) (fun y0 y1 => (kkr y0 y1).bind g) n data i out = (s_l02Members.l1 kke0 kkr n data i out).bind g := by
  intro n
  induction n with
  | zero => intros; rfl
  | succ n ih => intros; simp only [s_l02Members.l1, grd_bind, cnd_bind, bnd_bind, non_bind, ih]
def s_l02Members.F {R : Type} (kk : List Int → Bool → Option R) (data : ByteArray) : Option R :=
  s_l02Members.l1 (fun out => kk out (decide ((List.length out : Int) > (0 : Int)))) (fun b l => kk l b) fuel data (0 : Int) ([] : List Int)
theorem s_l02Members.F_nat {R S : Type} (g : R → Option S) (kk : List Int → Bool → Option R) (data : ByteArray) : s_l02Members.F (fun y0 y1 => (kk y0 y1).bind g) data = (s_l02Members.F kk data).bind g := by
  simp only [s_l02Members.F, grd_bind, cnd_bind, bnd_bind, non_bind, ← s_l02Members.l1_nat]
def s_l02Members (data : ByteArray) : Option (List Int × Bool) := s_l02Members.F (fun y0 y1 => some (y0, y1)) data
theorem s_l02Members_nat {S : Type} (g : (List Int × Bool) → Option S) (data : ByteArray) : s_l02Members.F (fun y0 y1 => g (y0, y1)) data = (s_l02Members data).bind g := s_l02Members.F_nat g (fun y0 y1 => some (y0, y1)) data
def s_l02Members.out : (List Int × Bool) → CRes := fun a => ⟨encL SV.enc [.one (.own [] (.int .i64) true), .one (.bool)] (a.1, a.2, ()), [encL SC.enc [] ()]⟩
def s_l02Members.ps : List PS := [.val [none]]
def s_l02Members.sA : List SA := [.v (.one (.str))]
def s_l02Members.fi : FI := FIs s_l02Members.sA (List Int × Bool) (fun t => s_l02Members t.1) s_l02Members.out s_l02Members.ps
def s_l02Members.E : Env := ⟨tt, lkF [(63, s_l01In.fi)], 45, 0, [], []⟩
def s_l02Members.sh1 : SK := ⟨[.v (.one (.str)), .v (.one (.slo 0)), .v (.one (.int .i64))], [.arr (.int .i64) [] true]⟩
def s_l02Members.sh1e0 : SK := ⟨[.v (.one (.slo 0))], [.arr (.int .i64) [] true]⟩
def s_l02Members.sh1r : SK := ⟨[.v (.one (.slo 0)), .v (.one (.bool))], [.arr (.int .i64) [] true]⟩
def s_l02Members.ko1 : Ex → List CastAt × List Nat
  | .nrm => ([], [])
  | .ret => ([], [2, 3])
  | .ext i => cond (Nat.beq i 0) ([], [4]) ([], [])
def s_l02Members.G1 (n : Nat) (R : Type) (t : s_l02Members.sh1.T) (K : Ex → Kp → Option R) : Option R := s_l02Members.l1 (fun y0 => K (.ext 0) (SK.enc s_l02Members.sh1e0 (((), ()), (y0, ())))) (fun y0 y1 => K .ret (SK.enc s_l02Members.sh1r (((), y0, ()), (y1, ())))) n t.1.1 t.1.2.2.1 t.2.1
def s_l02Members.S1 : Sum := ⟨([], [0, 4, 5]), sumF s_l02Members.sh1 (s_l02Members.G1 fuel), s_l02Members.ko1⟩
theorem s_l02Members.ok1 (hE : EOk Tryz.prog (s_l02Members.E)) : SumOk Tryz.prog s_l02Members.E (cB (cR (cL (cR (cR (bodyOf Tryz.f147)))))) (s_l02Members.S1) := by
  have hh : HintOk Tryz.prog s_l02Members.E (cB (cB (cR (cL (cR (cR (bodyOf Tryz.f147))))))) (.a) := HintOk.n1 (Q := True) (by kernel_rfl) trivial
  have h := loopS (kin := ([], [0, 4, 5])) (kout := s_l02Members.ko1) (sh := s_l02Members.sh1) (F := s_l02Members.G1) (ops_ok (hE.gv _)) (by kernel_rfl) hh (fun _ _ _ => rfl) (fun n R t K => by kernel_rfl) fuel
  exact HintOk.n1 (c := (cB (cR (cL (cR (cR (bodyOf Tryz.f147))))))) (h := .s (s_l02Members.S1)) (P := Tryz.prog) (E := s_l02Members.E) (by kernel_rfl) h
theorem s_l02Members.hok (hE : EOk Tryz.prog (s_l02Members.E)) : HintOk Tryz.prog s_l02Members.E (bodyOf Tryz.f147) (.n (.a) (.n (.a) (.n (.n (.a) (.b (.s (s_l02Members.S1)))) (.a)))) := HintOk.n1 (Q := (True) ∧ ((True) ∧ (((True) ∧ (SumOk Tryz.prog s_l02Members.E (cB (cR (cL (cR (cR (bodyOf Tryz.f147)))))) (s_l02Members.S1))) ∧ (True)))) (by kernel_rfl) ⟨trivial, ⟨trivial, ⟨⟨trivial, (s_l02Members.ok1 hE)⟩, trivial⟩⟩⟩
theorem s_l02Members.hE : EOk Tryz.prog (s_l02Members.E) := EOk.of ttOk (⟨s_l01In.fok, trivial⟩)
theorem s_l02Members.fok : FOk Tryz.prog 147 s_l02Members.fi :=
  fokS (E := s_l02Members.E) (wy := ⟨[[some ((.int .i64), true)], [none]], [[]], []⟩) (h := (fun gs => .n (.a) (.n (.a) (.n (.n (.a) (.b (.s (s_l02Members.S1)))) (.a))))) (G := fun t g => s_l02Members.F (fun y0 y1 => g (y0, y1)) t.1) (by kernel_rfl) s_l02Members.hE Tryz.func147 (by kernel_rfl) rfl (Nat.le_refl _) (fun t => HintOk.n1 (by kernel_rfl) (s_l02Members.hok s_l02Members.hE)) (fun t g => s_l02Members_nat g t.1) (fun t => by kernel_rfl)
/-! loop.example_g00220_spec.l02Entry -/
def s_l02Entry.F {R : Type} (kk : Bool → Option R) (e_Term : Int) (e_Kind : Int) (e_Data : ByteArray) : Option R :=
  (s_l01In e_Term (1 : Int) (1000000 : Int)).bind fun r =>
  cond (!r) (kk false) (
    cond (e_Kind == (0 : Int)) (kk (sEq e_Data ByteArray.empty)) (
      cond (e_Kind == (1 : Int)) (
        cond (decide ((ByteArray.size e_Data : Int) ≥ (1 : Int))) (kk (decide ((ByteArray.size e_Data : Int) ≤ (100 : Int)))) (kk false)) (
        cond (e_Kind == (2 : Int)) (
          (s_l02Members e_Data).bind fun r1 =>
          kk r1.2) (kk false))))
theorem s_l02Entry.F_nat {R S : Type} (g : R → Option S) (kk : Bool → Option R) (e_Term : Int) (e_Kind : Int) (e_Data : ByteArray) : s_l02Entry.F (fun y0 => (kk y0).bind g) e_Term e_Kind e_Data = (s_l02Entry.F kk e_Term e_Kind e_Data).bind g := by
  simp only [s_l02Entry.F, grd_bind, cnd_bind, bnd_bind, non_bind]
def s_l02Entry (e_Term : Int) (e_Kind : Int) (e_Data : ByteArray) : Option Bool := s_l02Entry.F (fun y0 => some y0) e_Term e_Kind e_Data
theorem s_l02Entry_nat {S : Type} (g : Bool → Option S) (e_Term : Int) (e_Kind : Int) (e_Data : ByteArray) : s_l02Entry.F (fun y0 => g y0) e_Term e_Kind e_Data = (s_l02Entry e_Term e_Kind e_Data).bind g := s_l02Entry.F_nat g (fun y0 => some y0) e_Term e_Kind e_Data
def s_l02Entry.out : Bool → CRes := fun a => ⟨encL SV.enc [.one (.bool)] (a, ()), [encL SC.enc [] ()]⟩
def s_l02Entry.ps : List PS := [.val [none, none, none]]
def s_l02Entry.sA : List SA := [.v (.agg [.int .i64, .int .i64, .str])]
def s_l02Entry.fi : FI := FIs s_l02Entry.sA (Bool) (fun t => s_l02Entry t.1.1 t.1.2.1 t.1.2.2.1) s_l02Entry.out s_l02Entry.ps
def s_l02Entry.E : Env := ⟨tt, lkF [(63, s_l01In.fi), (147, s_l02Members.fi)], 37, 0, [], []⟩
theorem s_l02Entry.hok (hE : EOk Tryz.prog (s_l02Entry.E)) : HintOk Tryz.prog s_l02Entry.E (bodyOf Tryz.f104) (.a) := HintOk.n1 (Q := True) (by kernel_rfl) trivial
theorem s_l02Entry.hE : EOk Tryz.prog (s_l02Entry.E) := EOk.of ttOk (⟨s_l01In.fok, ⟨s_l02Members.fok, trivial⟩⟩)
theorem s_l02Entry.fok : FOk Tryz.prog 104 s_l02Entry.fi :=
  fokS (E := s_l02Entry.E) (wy := ⟨[[none]], [[]], []⟩) (h := (fun gs => .a)) (G := fun t g => s_l02Entry.F (fun y0 => g y0) t.1.1 t.1.2.1 t.1.2.2.1) (by kernel_rfl) s_l02Entry.hE Tryz.func104 (by kernel_rfl) rfl (Nat.le_refl _) (fun t => HintOk.n1 (by kernel_rfl) (s_l02Entry.hok s_l02Entry.hE)) (fun t g => s_l02Entry_nat g t.1.1 t.1.2.1 t.1.2.2.1) (fun t => by kernel_rfl)
/-! loop.example_g00220_spec.StateOK -/
def s_StateOK.l1 {R : Type} (kke0 : Option R) (kkr : Bool → Option R) : Nat → Int → Int → Int → List (El kEntry) → Option R
  | 0, _, _, _, _ => none
  | n + 1, i, s, s1, s2 =>
    cond (decide (i < (List.length s2 : Int))) (
      grd (gIx i (List.length s2)) <|
      (s_l02Entry ((rdE kEntry s2 (Int.toNat i)).1) ((rdE kEntry s2 (Int.toNat i)).2.1) ((rdE kEntry s2 (Int.toNat i)).2.2)).bind fun r =>
      cond (!r) (kkr false) (
        grd (gIx i (List.length s2)) <|
        cond (decide ((rdE kEntry s2 (Int.toNat i)).1 > s)) (kkr false) (
          cond (decide (i > (0 : Int))) (
            grd (gIx (IntKind.wrap .i64 (i - (1 : Int))) (List.length s2)) <|
            grd (gIx i (List.length s2)) <|
            cond (decide ((rdE kEntry s2 (Int.toNat (IntKind.wrap .i64 (i - (1 : Int))))).1 > (rdE kEntry s2 (Int.toNat i)).1)) (kkr false) (s_StateOK.l1 kke0 kkr n (IntKind.wrap .i64 (i + (1 : Int))) s s1 s2)) (s_StateOK.l1 kke0 kkr n (IntKind.wrap .i64 (i + (1 : Int))) s s1 s2)))) (kke0)
theorem s_StateOK.l1_nat {R S : Type} (g : R → Option S) (kke0 : Option R) (kkr : Bool → Option R) : ∀ (n : Nat) (i : Int) (s : Int) (s1 : Int) (s2 : List (El kEntry)), s_StateOK.l1 (kke0.bind g) (fun y0 => (kkr y0).bind g) n i s s1 s2 = (s_StateOK.l1 kke0 kkr n i s s1 s2).bind g := by
  intro n
  induction n with
  | zero => intros; rfl
  | succ n ih => intros; simp only [s_StateOK.l1, grd_bind, cnd_bind, bnd_bind, non_bind, ih]
def s_StateOK.F {R : Type} (kk : Bool → Option R) (s_Term : Int) (s_Vote : Int) (s_Log : List (El kEntry)) : Option R :=
  (s_l01In s_Term (0 : Int) (1000000 : Int)).bind fun r =>
  cond (!r) (kk false) (
    (s_l01In s_Vote (-1 : Int) (6 : Int)).bind fun r1 =>
    cond (!r1) (kk false) (
      cond (decide ((List.length s_Log : Int) > (60 : Int))) (kk false) (s_StateOK.l1 (kk true) (fun b => kk b) fuel (0 : Int) s_Term s_Vote s_Log)))
theorem s_StateOK.F_nat {R S : Type} (g : R → Option S) (kk : Bool → Option R) (s_Term : Int) (s_Vote : Int) (s_Log : List (El kEntry)) : s_StateOK.F (fun y0 => (kk y0).bind g) s_Term s_Vote s_Log = (s_StateOK.F kk s_Term s_Vote s_Log).bind g := by
  simp only [s_StateOK.F, grd_bind, cnd_bind, bnd_bind, non_bind, ← s_StateOK.l1_nat]
def s_StateOK (s_Term : Int) (s_Vote : Int) (s_Log : List (El kEntry)) : Option Bool := s_StateOK.F (fun y0 => some y0) s_Term s_Vote s_Log
theorem s_StateOK_nat {S : Type} (g : Bool → Option S) (s_Term : Int) (s_Vote : Int) (s_Log : List (El kEntry)) : s_StateOK.F (fun y0 => g y0) s_Term s_Vote s_Log = (s_StateOK s_Term s_Vote s_Log).bind g := s_StateOK.F_nat g (fun y0 => some y0) s_Term s_Vote s_Log
def s_StateOK.out : Bool → CRes := fun a => ⟨encL SV.enc [.one (.bool)] (a, ()), [encL SC.enc [] ()]⟩
def s_StateOK.ps : List PS := [.val [none, none, some (kEntry, false)]]
def s_StateOK.sA : List SA := [.v (.agg [.int .i64, .int .i64, .slv [] kEntry])]
def s_StateOK.fi : FI := FIs s_StateOK.sA (Bool) (fun t => s_StateOK t.1.1 t.1.2.1 t.1.2.2.1) s_StateOK.out s_StateOK.ps
def s_StateOK.E : Env := ⟨tt, lkF [(63, s_l01In.fi), (104, s_l02Entry.fi)], 65, 0, [], []⟩
def s_StateOK.sh1 : SK := ⟨[.v (.one (.bptr 0 0)), .v (.one (.int .i64))], [.box [.int .i64, .int .i64, .slv [1] kEntry]]⟩
def s_StateOK.sh1e0 : SK := ⟨[], []⟩
def s_StateOK.sh1r : SK := ⟨[.v (.one (.bool))], []⟩
def s_StateOK.ko1 : Ex → List CastAt × List Nat
  | .nrm => ([], [])
  | .ret => ([], [2])
  | .ext i => cond (Nat.beq i 0) ([], []) ([], [])
def s_StateOK.G1 (n : Nat) (R : Type) (t : s_StateOK.sh1.T) (K : Ex → Kp → Option R) : Option R := s_StateOK.l1 (K (.ext 0) (SK.enc s_StateOK.sh1e0 ((), ()))) (fun y0 => K .ret (SK.enc s_StateOK.sh1r ((y0, ()), ()))) n t.1.2.1 t.2.1.1 t.2.1.2.1 t.2.1.2.2.1
def s_StateOK.S1 : Sum := ⟨([], [1, 3]), sumF s_StateOK.sh1 (s_StateOK.G1 fuel), s_StateOK.ko1⟩
theorem s_StateOK.ok1 (hE : EOk Tryz.prog (s_StateOK.E)) : SumOk Tryz.prog s_StateOK.E (cB (cR (cL (cR (cR (bodyOf Tryz.f56)))))) (s_StateOK.S1) := by
  have hh : HintOk Tryz.prog s_StateOK.E (cB (cB (cR (cL (cR (cR (bodyOf Tryz.f56))))))) (.a) := HintOk.n1 (Q := True) (by kernel_rfl) trivial
  have h := loopS (kin := ([], [1, 3])) (kout := s_StateOK.ko1) (sh := s_StateOK.sh1) (F := s_StateOK.G1) (ops_ok (hE.gv _)) (by kernel_rfl) hh (fun _ _ _ => rfl) (fun n R t K => by kernel_rfl) fuel
  exact HintOk.n1 (c := (cB (cR (cL (cR (cR (bodyOf Tryz.f56))))))) (h := .s (s_StateOK.S1)) (P := Tryz.prog) (E := s_StateOK.E) (by kernel_rfl) h
theorem s_StateOK.hok (hE : EOk Tryz.prog (s_StateOK.E)) : HintOk Tryz.prog s_StateOK.E (bodyOf Tryz.f56) (.n (.a) (.n (.a) (.n (.n (.a) (.b (.s (s_StateOK.S1)))) (.a)))) := HintOk.n1 (Q := (True) ∧ ((True) ∧ (((True) ∧ (SumOk Tryz.prog s_StateOK.E (cB (cR (cL (cR (cR (bodyOf Tryz.f56)))))) (s_StateOK.S1))) ∧ (True)))) (by kernel_rfl) ⟨trivial, ⟨trivial, ⟨⟨trivial, (s_StateOK.ok1 hE)⟩, trivial⟩⟩⟩
theorem s_StateOK.hE : EOk Tryz.prog (s_StateOK.E) := EOk.of ttOk (⟨s_l01In.fok, ⟨s_l02Entry.fok, trivial⟩⟩)
theorem s_StateOK.fok : FOk Tryz.prog 56 s_StateOK.fi :=
  fokS (E := s_StateOK.E) (wy := ⟨[[none]], [[]], []⟩) (h := (fun gs => .n (.a) (.n (.a) (.n (.n (.a) (.b (.s (s_StateOK.S1)))) (.a))))) (G := fun t g => s_StateOK.F (fun y0 => g y0) t.1.1 t.1.2.1 t.1.2.2.1) (by kernel_rfl) s_StateOK.hE Tryz.func56 (by kernel_rfl) rfl (Nat.le_refl _) (fun t => HintOk.n1 (by kernel_rfl) (s_StateOK.hok s_StateOK.hE)) (fun t g => s_StateOK_nat g t.1.1 t.1.2.1 t.1.2.2.1) (fun t => by kernel_rfl)
/-! __loop.example_g00220_spec.l02Reader_.text -/
def s_l02Reader_text.F {R : Type} (kk : ByteArray → List Int → Int → Bool → Option R) (r_b : List Int) (r_at : Int) (r_bad : Bool) (n_ : Int) : Option R :=
  cond (r_bad) (kk ByteArray.empty r_b r_at true) (
    cond (decide (n_ < (0 : Int))) (kk ByteArray.empty r_b r_at true) (
      cond (decide ((IntKind.wrap .i64 (r_at + n_)) > (List.length r_b : Int))) (kk ByteArray.empty r_b r_at true) (
        grd (gSl (IntKind.wrap .i64 ((IntKind.wrap .i64 (r_at + n_)) - n_)) (IntKind.wrap .i64 (r_at + n_)) (List.length r_b)) <|
        kk (strL (sub r_b (IntKind.wrap .i64 ((IntKind.wrap .i64 (r_at + n_)) - n_)) (IntKind.wrap .i64 (r_at + n_)))) r_b (IntKind.wrap .i64 (r_at + n_)) r_bad)))
theorem s_l02Reader_text.F_nat {R S : Type} (g : R → Option S) (kk : ByteArray → List Int → Int → Bool → Option R) (r_b : List Int) (r_at : Int) (r_bad : Bool) (n_ : Int) : s_l02Reader_text.F (fun y0 y1 y2 y3 => (kk y0 y1 y2 y3).bind g) r_b r_at r_bad n_ = (s_l02Reader_text.F kk r_b r_at r_bad n_).bind g := by
  simp only [s_l02Reader_text.F, grd_bind, cnd_bind, bnd_bind, non_bind]
def s_l02Reader_text (r_b : List Int) (r_at : Int) (r_bad : Bool) (n_ : Int) : Option (ByteArray × List Int × Int × Bool) := s_l02Reader_text.F (fun y0 y1 y2 y3 => some (y0, y1, y2, y3)) r_b r_at r_bad n_
theorem s_l02Reader_text_nat {S : Type} (g : (ByteArray × List Int × Int × Bool) → Option S) (r_b : List Int) (r_at : Int) (r_bad : Bool) (n_ : Int) : s_l02Reader_text.F (fun y0 y1 y2 y3 => g (y0, y1, y2, y3)) r_b r_at r_bad n_ = (s_l02Reader_text r_b r_at r_bad n_).bind g := s_l02Reader_text.F_nat g (fun y0 y1 y2 y3 => some (y0, y1, y2, y3)) r_b r_at r_bad n_
def s_l02Reader_text.out : (ByteArray × List Int × Int × Bool) → CRes := fun a => ⟨encL SV.enc [.one (.str)] (a.1, ()), [encL SC.enc [.slv [1] (.int .u8), .int .i64, .bool] (a.2.1, a.2.2.1, a.2.2.2, ()), encL SC.enc [] ()]⟩
def s_l02Reader_text.ps : List PS := [.ptr [some ((.int .u8), false), none, none], .val [none]]
def s_l02Reader_text.sA : List SA := [.ptr [.slv [] (.int .u8), .int .i64, .bool], .v (.one (.int .i64))]
def s_l02Reader_text.fi : FI := FIs s_l02Reader_text.sA (ByteArray × List Int × Int × Bool) (fun t => s_l02Reader_text t.1.1 t.1.2.1 t.1.2.2.1 t.2.1) s_l02Reader_text.out s_l02Reader_text.ps
def s_l02Reader_text.E : Env := ⟨tt, lkF [], 54, 1, [], []⟩
theorem s_l02Reader_text.hok (hE : EOk Tryz.prog (s_l02Reader_text.E)) : HintOk Tryz.prog s_l02Reader_text.E (bodyOf Tryz.f179) (.a) := HintOk.n1 (Q := True) (by kernel_rfl) trivial
theorem s_l02Reader_text.hE : EOk Tryz.prog (s_l02Reader_text.E) := EOk.of ttOk (trivial)
theorem s_l02Reader_text.fok : FOk Tryz.prog 179 s_l02Reader_text.fi :=
  fokS (E := s_l02Reader_text.E) (wy := ⟨[[none]], [[some ((.int .u8), false), none, none], []], []⟩) (h := (fun gs => .a)) (G := fun t g => s_l02Reader_text.F (fun y0 y1 y2 y3 => g (y0, y1, y2, y3)) t.1.1 t.1.2.1 t.1.2.2.1 t.2.1) (by kernel_rfl) s_l02Reader_text.hE Tryz.func179 (by kernel_rfl) rfl (Nat.le_refl _) (fun t => HintOk.n1 (by kernel_rfl) (s_l02Reader_text.hok s_l02Reader_text.hE)) (fun t g => s_l02Reader_text_nat g t.1.1 t.1.2.1 t.1.2.2.1 t.2.1) (fun t => by kernel_rfl)
/-! loop.example_g00220_spec.l02ReadEntry -/
def s_l02ReadEntry.F {R : Type} (kk : Int → Int → ByteArray → Bool → Option R) (b : List Int) : Option R :=
  (s_l02Reader_number b (0 : Int) false (4 : Int)).bind fun r =>
  (s_l02Reader_number r.2.1 r.2.2.1 r.2.2.2 (1 : Int)).bind fun r1 =>
  (s_l02Reader_number r1.2.1 r1.2.2.1 r1.2.2.2 (1 : Int)).bind fun r2 =>
  (s_l02Reader_text r2.2.1 r2.2.2.1 r2.2.2.2 r2.1).bind fun r3 =>
  cond (!r3.2.2.2) (
    cond (r3.2.2.1 == (List.length b : Int)) (
      (s_l02Entry r.1 r1.1 r3.1).bind fun r4 =>
      kk r.1 r1.1 r3.1 r4) (kk r.1 r1.1 r3.1 false)) (kk r.1 r1.1 r3.1 false)
theorem s_l02ReadEntry.F_nat {R S : Type} (g : R → Option S) (kk : Int → Int → ByteArray → Bool → Option R) (b : List Int) : s_l02ReadEntry.F (fun y0 y1 y2 y3 => (kk y0 y1 y2 y3).bind g) b = (s_l02ReadEntry.F kk b).bind g := by
  simp only [s_l02ReadEntry.F, grd_bind, cnd_bind, bnd_bind, non_bind]
def s_l02ReadEntry (b : List Int) : Option (Int × Int × ByteArray × Bool) := s_l02ReadEntry.F (fun y0 y1 y2 y3 => some (y0, y1, y2, y3)) b
theorem s_l02ReadEntry_nat {S : Type} (g : (Int × Int × ByteArray × Bool) → Option S) (b : List Int) : s_l02ReadEntry.F (fun y0 y1 y2 y3 => g (y0, y1, y2, y3)) b = (s_l02ReadEntry b).bind g := s_l02ReadEntry.F_nat g (fun y0 y1 y2 y3 => some (y0, y1, y2, y3)) b
def s_l02ReadEntry.out : (Int × Int × ByteArray × Bool) → CRes := fun a => ⟨encL SV.enc [.agg [.int .i64, .int .i64, .str], .one (.bool)] ((a.1, a.2.1, a.2.2.1, ()), a.2.2.2, ()), [encL SC.enc [] ()]⟩
def s_l02ReadEntry.ps : List PS := [.val [some ((.int .u8), false)]]
def s_l02ReadEntry.sA : List SA := [.v (.one (.slv [] (.int .u8)))]
def s_l02ReadEntry.fi : FI := FIs s_l02ReadEntry.sA (Int × Int × ByteArray × Bool) (fun t => s_l02ReadEntry t.1) s_l02ReadEntry.out s_l02ReadEntry.ps
def s_l02ReadEntry.E : Env := ⟨tt, lkF [(104, s_l02Entry.fi), (136, s_l02Reader_number.fi), (179, s_l02Reader_text.fi)], 38, 0, [], []⟩
theorem s_l02ReadEntry.hok (hE : EOk Tryz.prog (s_l02ReadEntry.E)) : HintOk Tryz.prog s_l02ReadEntry.E (bodyOf Tryz.f137) (.a) := HintOk.n1 (Q := True) (by kernel_rfl) trivial
theorem s_l02ReadEntry.hE : EOk Tryz.prog (s_l02ReadEntry.E) := EOk.of ttOk (⟨s_l02Entry.fok, ⟨s_l02Reader_number.fok, ⟨s_l02Reader_text.fok, trivial⟩⟩⟩)
theorem s_l02ReadEntry.fok : FOk Tryz.prog 137 s_l02ReadEntry.fi :=
  fokS (E := s_l02ReadEntry.E) (wy := ⟨[[none, none, none], [none]], [[]], []⟩) (h := (fun gs => .a)) (G := fun t g => s_l02ReadEntry.F (fun y0 y1 y2 y3 => g (y0, y1, y2, y3)) t.1) (by kernel_rfl) s_l02ReadEntry.hE Tryz.func137 (by kernel_rfl) rfl (Nat.le_refl _) (fun t => HintOk.n1 (by kernel_rfl) (s_l02ReadEntry.hok s_l02ReadEntry.hE)) (fun t g => s_l02ReadEntry_nat g t.1) (fun t => by kernel_rfl)
/-! loop.example_g00220_spec.l05Fold -/
def s_l05Fold.F {R : Type} (kk : Int → Int → List (El kEntry) → Bool → Option R) (s_Term : Int) (s_Vote : Int) (s_Log : List (El kEntry)) (t_ : ByteArray) : Option R :=
  cond (sEq t_ ByteArray.empty) (kk s_Term s_Vote s_Log false) (
    grd (gIx (0 : Int) (ByteArray.size t_)) <|
    cond ((byteAt t_ (0 : Int)) == (84 : Int)) (
      (s_l02Reader_number (bytesL t_) (1 : Int) false (4 : Int)).bind fun r =>
      (s_l02Reader_number r.2.1 r.2.2.1 r.2.2.2 (1 : Int)).bind fun r1 =>
      cond (!r1.2.2.2) (kk r.1 (IntKind.wrap .i64 (r1.1 - (1 : Int))) s_Log (r1.2.2.1 == (ByteArray.size t_ : Int))) (kk r.1 (IntKind.wrap .i64 (r1.1 - (1 : Int))) s_Log false)) (
      cond ((byteAt t_ (0 : Int)) == (67 : Int)) (
        (s_l02Reader_number (bytesL t_) (1 : Int) false (4 : Int)).bind fun r2 =>
        cond (r2.2.2.2) (kk s_Term s_Vote s_Log false) (
          cond (r2.2.2.1 != (ByteArray.size t_ : Int)) (kk s_Term s_Vote s_Log false) (
            cond (decide (r2.1 > (List.length s_Log : Int))) (kk s_Term s_Vote s_Log false) (
              grd (gSl (0 : Int) r2.1 (List.length s_Log)) <|
              grd (gRm (((List.length ([] : List (El kEntry))) + (List.length (sub s_Log (0 : Int) r2.1))) * 32)) <|
              kk s_Term s_Vote (([] : List (El kEntry)) ++ (sub s_Log (0 : Int) r2.1)) true)))) (
        cond ((byteAt t_ (0 : Int)) == (69 : Int)) (
          grd (gSl (1 : Int) (ByteArray.size t_ : Int) (ByteArray.size t_)) <|
          (s_l02ReadEntry (bytesL (cut t_ (1 : Int) (ByteArray.size t_ : Int)))).bind fun r3 =>
          grd (gRm (((List.length ([] : List (El kEntry))) + (List.length s_Log)) * 32)) <|
          grd (gRm (((List.length (([] : List (El kEntry)) ++ s_Log)) + (List.length [(r3.1, (r3.2.1, r3.2.2.1))])) * 32)) <|
          kk s_Term s_Vote ((([] : List (El kEntry)) ++ s_Log) ++ [(r3.1, (r3.2.1, r3.2.2.1))]) r3.2.2.2) (kk s_Term s_Vote s_Log false))))
theorem s_l05Fold.F_nat {R S : Type} (g : R → Option S) (kk : Int → Int → List (El kEntry) → Bool → Option R) (s_Term : Int) (s_Vote : Int) (s_Log : List (El kEntry)) (t_ : ByteArray) : s_l05Fold.F (fun y0 y1 y2 y3 => (kk y0 y1 y2 y3).bind g) s_Term s_Vote s_Log t_ = (s_l05Fold.F kk s_Term s_Vote s_Log t_).bind g := by
  simp only [s_l05Fold.F, grd_bind, cnd_bind, bnd_bind, non_bind]
def s_l05Fold (s_Term : Int) (s_Vote : Int) (s_Log : List (El kEntry)) (t_ : ByteArray) : Option (Int × Int × List (El kEntry) × Bool) := s_l05Fold.F (fun y0 y1 y2 y3 => some (y0, y1, y2, y3)) s_Term s_Vote s_Log t_
theorem s_l05Fold_nat {S : Type} (g : (Int × Int × List (El kEntry) × Bool) → Option S) (s_Term : Int) (s_Vote : Int) (s_Log : List (El kEntry)) (t_ : ByteArray) : s_l05Fold.F (fun y0 y1 y2 y3 => g (y0, y1, y2, y3)) s_Term s_Vote s_Log t_ = (s_l05Fold s_Term s_Vote s_Log t_).bind g := s_l05Fold.F_nat g (fun y0 y1 y2 y3 => some (y0, y1, y2, y3)) s_Term s_Vote s_Log t_
def s_l05Fold.out : (Int × Int × List (El kEntry) × Bool) → CRes := fun a => ⟨encL SV.enc [.agg [.int .i64, .int .i64, .slv [0, 1] kEntry], .one (.bool)] ((a.1, a.2.1, a.2.2.1, ()), a.2.2.2, ()), [encL SC.enc [] (), encL SC.enc [] ()]⟩
def s_l05Fold.ps : List PS := [.val [none, none, some (kEntry, false)], .val [none]]
def s_l05Fold.sA : List SA := [.v (.agg [.int .i64, .int .i64, .slv [] kEntry]), .v (.one (.str))]
def s_l05Fold.fi : FI := FIs s_l05Fold.sA (Int × Int × List (El kEntry) × Bool) (fun t => s_l05Fold t.1.1 t.1.2.1 t.1.2.2.1 t.2.1) s_l05Fold.out s_l05Fold.ps
def s_l05Fold.E : Env := ⟨tt, lkF [(136, s_l02Reader_number.fi), (137, s_l02ReadEntry.fi)], 96, 0, [], []⟩
theorem s_l05Fold.hok (hE : EOk Tryz.prog (s_l05Fold.E)) : HintOk Tryz.prog s_l05Fold.E (bodyOf Tryz.f89) (.a) := HintOk.n1 (Q := True) (by kernel_rfl) trivial
theorem s_l05Fold.hE : EOk Tryz.prog (s_l05Fold.E) := EOk.of ttOk (⟨s_l02Reader_number.fok, ⟨s_l02ReadEntry.fok, trivial⟩⟩)
theorem s_l05Fold.fok : FOk Tryz.prog 89 s_l05Fold.fi :=
  fokS (E := s_l05Fold.E) (wy := ⟨[[none, none, some (kEntry, false)], [none]], [[], []], [⟨4, true, 2, .slv [0, 1] kEntry⟩]⟩) (h := (fun gs => .a)) (G := fun t g => s_l05Fold.F (fun y0 y1 y2 y3 => g (y0, y1, y2, y3)) t.1.1 t.1.2.1 t.1.2.2.1 t.2.1) (by kernel_rfl) s_l05Fold.hE Tryz.func89 (by kernel_rfl) rfl (Nat.le_refl _) (fun t => HintOk.n1 (by kernel_rfl) (s_l05Fold.hok s_l05Fold.hE)) (fun t g => s_l05Fold_nat g t.1.1 t.1.2.1 t.1.2.2.1 t.2.1) (fun t => by kernel_rfl)
/-! loop.example_g00220_spec.l05FoldAll -/
def s_l05FoldAll.l1 {R : Type} (kke0 : Int → Int → Int → Int → List (El kEntry) → Option R) (kkr : Bool → Int → Int → List (El kEntry) → Option R) : Nat → List ByteArray → Int → Int → Int → Int → Int → List (El kEntry) → Option R
  | 0, _, _, _, _, _, _, _ => none
  | n + 1, list, i, i1, i2, s, s1, s2 =>
    cond (decide (i < (List.length list : Int))) (
      grd (gIx i (List.length list)) <|
      (s_l05Fold s s1 s2 (rdE (.str : Kd) list (Int.toNat i))).bind fun r =>
      cond (!r.2.2.2) (kkr false s s1 s2) (
        cond (decide ((List.length r.2.2.1 : Int) > (60 : Int))) (kkr false s s1 s2) (
          s_l05FoldAll.l1 kke0 kkr n list (IntKind.wrap .i64 (i + (1 : Int))) i1 i2 r.1 r.2.1 r.2.2.1))) (kke0 i1 i2 s s1 s2)
theorem s_l05FoldAll.l1_nat {R S : Type} (g : R → Option S) (kke0 : Int → Int → Int → Int → List (El kEntry) → Option R) (kkr : Bool → Int → Int → List (El kEntry) → Option R) : ∀ (n : Nat) (list : List ByteArray) (i : Int) (i1 : Int) (i2 : Int) (s : Int) (s1 : Int) (s2 : List (El kEntry)), s_l05FoldAll.l1 (fun y0 y1 y2 y3 y4 => (kke0 y0 y1 y2 y3 y4).bind g) (fun y0 y1 y2 y3 => (kkr y0 y1 y2 y3).bind g) n list i i1 i2 s s1 s2 = (s_l05FoldAll.l1 kke0 kkr n list i i1 i2 s s1 s2).bind g := by
  intro n
  induction n with
  | zero => intros; rfl
  | succ n ih => intros; simp only [s_l05FoldAll.l1, grd_bind, cnd_bind, bnd_bind, non_bind, ih]
def s_l05FoldAll.F {R : Type} (kk : Int → Int → List (El kEntry) → Bool → Option R) (list : List ByteArray) : Option R :=
  s_l05FoldAll.l1 (fun i i1 s s1 s2 =>
    (s_StateOK s s1 s2).bind fun r =>
    kk s s1 s2 r) (fun b i2 i3 l => kk i2 i3 l b) fuel list (0 : Int) (0 : Int) (0 : Int) (0 : Int) (-1 : Int) ([] : List (El kEntry))
theorem s_l05FoldAll.F_nat {R S : Type} (g : R → Option S) (kk : Int → Int → List (El kEntry) → Bool → Option R) (list : List ByteArray) : s_l05FoldAll.F (fun y0 y1 y2 y3 => (kk y0 y1 y2 y3).bind g) list = (s_l05FoldAll.F kk list).bind g := by
  simp only [s_l05FoldAll.F, grd_bind, cnd_bind, bnd_bind, non_bind, ← s_l05FoldAll.l1_nat]
def s_l05FoldAll (list : List ByteArray) : Option (Int × Int × List (El kEntry) × Bool) := s_l05FoldAll.F (fun y0 y1 y2 y3 => some (y0, y1, y2, y3)) list
theorem s_l05FoldAll_nat {S : Type} (g : (Int × Int × List (El kEntry) × Bool) → Option S) (list : List ByteArray) : s_l05FoldAll.F (fun y0 y1 y2 y3 => g (y0, y1, y2, y3)) list = (s_l05FoldAll list).bind g := s_l05FoldAll.F_nat g (fun y0 y1 y2 y3 => some (y0, y1, y2, y3)) list
def s_l05FoldAll.out : (Int × Int × List (El kEntry) × Bool) → CRes := fun a => ⟨encL SV.enc [.agg [.int .i64, .int .i64, .slv [0] kEntry], .one (.bool)] ((a.1, a.2.1, a.2.2.1, ()), a.2.2.2, ()), [encL SC.enc [] ()]⟩
def s_l05FoldAll.ps : List PS := [.val [some (.str, false)]]
def s_l05FoldAll.sA : List SA := [.v (.one (.slv [] .str))]
def s_l05FoldAll.fi : FI := FIs s_l05FoldAll.sA (Int × Int × List (El kEntry) × Bool) (fun t => s_l05FoldAll t.1) s_l05FoldAll.out s_l05FoldAll.ps
def s_l05FoldAll.E : Env := ⟨tt, lkF [(56, s_StateOK.fi), (89, s_l05Fold.fi)], 38, 0, [], []⟩
def s_l05FoldAll.sh1 : SK := ⟨[.v (.one (.slv [1] .str)), .v (.one (.bptr 0 0)), .v (.one (.bptr 1 0)), .v (.one (.int .i64))], [.box [.int .i64, .int .i64, .nil], .box [.int .i64, .int .i64, .slv [0] kEntry]]⟩
def s_l05FoldAll.sh1e0 : SK := ⟨[.v (.one (.bptr 0 0)), .v (.one (.bptr 1 0))], [.box [.int .i64, .int .i64, .nil], .box [.int .i64, .int .i64, .slv [0] kEntry]]⟩
def s_l05FoldAll.sh1r : SK := ⟨[.v (.one (.bptr 0 0)), .v (.one (.bool))], [.box [.int .i64, .int .i64, .slv [0] kEntry]]⟩
def s_l05FoldAll.ko1 : Ex → List CastAt × List Nat
  | .nrm => ([], [])
  | .ret => ([⟨2, true, 2, .slv [0] kEntry⟩], [2, 3])
  | .ext i => cond (Nat.beq i 0) ([], [2, 4]) ([], [])
def s_l05FoldAll.G1 (n : Nat) (R : Type) (t : s_l05FoldAll.sh1.T) (K : Ex → Kp → Option R) : Option R := s_l05FoldAll.l1 (fun y0 y1 y2 y3 y4 => K (.ext 0) (SK.enc s_l05FoldAll.sh1e0 (((), (), ()), ((y0, y1, (), ()), (y2, y3, y4, ()), ())))) (fun y0 y1 y2 y3 => K .ret (SK.enc s_l05FoldAll.sh1r (((), y0, ()), ((y1, y2, y3, ()), ())))) n t.1.1 t.1.2.2.2.1 t.2.1.1 t.2.1.2.1 t.2.2.1.1 t.2.2.1.2.1 t.2.2.1.2.2.1
def s_l05FoldAll.S1 : Sum := ⟨([⟨4, true, 2, .slv [0] kEntry⟩], [0, 2, 4, 5]), sumF s_l05FoldAll.sh1 (s_l05FoldAll.G1 fuel), s_l05FoldAll.ko1⟩
theorem s_l05FoldAll.ok1 (hE : EOk Tryz.prog (s_l05FoldAll.E)) : SumOk Tryz.prog s_l05FoldAll.E (cB (cR (cL (cR (cR (bodyOf Tryz.f44)))))) (s_l05FoldAll.S1) := by
  have hh : HintOk Tryz.prog s_l05FoldAll.E (cB (cB (cR (cL (cR (cR (bodyOf Tryz.f44))))))) (.a) := HintOk.n1 (Q := True) (by kernel_rfl) trivial
  have h := loopS (kin := ([⟨4, true, 2, .slv [0] kEntry⟩], [0, 2, 4, 5])) (kout := s_l05FoldAll.ko1) (sh := s_l05FoldAll.sh1) (F := s_l05FoldAll.G1) (ops_ok (hE.gv _)) (by kernel_rfl) hh (fun _ _ _ => rfl) (fun n R t K => by kernel_rfl) fuel
  exact HintOk.n1 (c := (cB (cR (cL (cR (cR (bodyOf Tryz.f44))))))) (h := .s (s_l05FoldAll.S1)) (P := Tryz.prog) (E := s_l05FoldAll.E) (by kernel_rfl) h
theorem s_l05FoldAll.hok (hE : EOk Tryz.prog (s_l05FoldAll.E)) : HintOk Tryz.prog s_l05FoldAll.E (bodyOf Tryz.f44) (.n (.a) (.n (.a) (.n (.n (.a) (.b (.s (s_l05FoldAll.S1)))) (.a)))) := HintOk.n1 (Q := (True) ∧ ((True) ∧ (((True) ∧ (SumOk Tryz.prog s_l05FoldAll.E (cB (cR (cL (cR (cR (bodyOf Tryz.f44)))))) (s_l05FoldAll.S1))) ∧ (True)))) (by kernel_rfl) ⟨trivial, ⟨trivial, ⟨⟨trivial, (s_l05FoldAll.ok1 hE)⟩, trivial⟩⟩⟩
theorem s_l05FoldAll.hE : EOk Tryz.prog (s_l05FoldAll.E) := EOk.of ttOk (⟨s_StateOK.fok, ⟨s_l05Fold.fok, trivial⟩⟩)
theorem s_l05FoldAll.fok : FOk Tryz.prog 44 s_l05FoldAll.fi :=
  fokS (E := s_l05FoldAll.E) (wy := ⟨[[none, none, some (kEntry, false)], [none]], [[]], []⟩) (h := (fun gs => .n (.a) (.n (.a) (.n (.n (.a) (.b (.s (s_l05FoldAll.S1)))) (.a))))) (G := fun t g => s_l05FoldAll.F (fun y0 y1 y2 y3 => g (y0, y1, y2, y3)) t.1) (by kernel_rfl) s_l05FoldAll.hE Tryz.func44 (by kernel_rfl) rfl (Nat.le_refl _) (fun t => HintOk.n1 (by kernel_rfl) (s_l05FoldAll.hok s_l05FoldAll.hE)) (fun t g => s_l05FoldAll_nat g t.1) (fun t => by kernel_rfl)
/-! loop.example_g00220_spec.LoadState -/
def s_LoadState.F {R : Type} (kk : Int → Int → List (El kEntry) → Int → Option R) (d_Room : Int) (d_Files : List (El kFile)) : Option R :=
  (s_WalRead d_Room d_Files).bind fun r =>
  cond (r.2.2.2.2 != (0 : Int)) (kk (0 : Int) (0 : Int) [] r.2.2.2.2) (
    (s_l05FoldAll r.2.1).bind fun r1 =>
    cond (!r1.2.2.2) (kk (0 : Int) (0 : Int) [] (3 : Int)) (kk r1.1 r1.2.1 r1.2.2.1 (0 : Int)))
theorem s_LoadState.F_nat {R S : Type} (g : R → Option S) (kk : Int → Int → List (El kEntry) → Int → Option R) (d_Room : Int) (d_Files : List (El kFile)) : s_LoadState.F (fun y0 y1 y2 y3 => (kk y0 y1 y2 y3).bind g) d_Room d_Files = (s_LoadState.F kk d_Room d_Files).bind g := by
  simp only [s_LoadState.F, grd_bind, cnd_bind, bnd_bind, non_bind]
def s_LoadState (d_Room : Int) (d_Files : List (El kFile)) : Option (Int × Int × List (El kEntry) × Int) := s_LoadState.F (fun y0 y1 y2 y3 => some (y0, y1, y2, y3)) d_Room d_Files
theorem s_LoadState_nat {S : Type} (g : (Int × Int × List (El kEntry) × Int) → Option S) (d_Room : Int) (d_Files : List (El kFile)) : s_LoadState.F (fun y0 y1 y2 y3 => g (y0, y1, y2, y3)) d_Room d_Files = (s_LoadState d_Room d_Files).bind g := s_LoadState.F_nat g (fun y0 y1 y2 y3 => some (y0, y1, y2, y3)) d_Room d_Files
def s_LoadState.out : (Int × Int × List (El kEntry) × Int) → CRes := fun a => ⟨encL SV.enc [.agg [.int .i64, .int .i64, .slv [0] kEntry], .one (.int .i64)] ((a.1, a.2.1, a.2.2.1, ()), a.2.2.2, ()), [encL SC.enc [] ()]⟩
def s_LoadState.ps : List PS := [.val [none, some (kFile, false)]]
def s_LoadState.sA : List SA := [.v (.agg [.int .i64, .slv [] kFile])]
def s_LoadState.fi : FI := FIs s_LoadState.sA (Int × Int × List (El kEntry) × Int) (fun t => s_LoadState t.1.1 t.1.2.1) s_LoadState.out s_LoadState.ps
def s_LoadState.E : Env := ⟨tt, lkF [(43, s_WalRead.fi), (44, s_l05FoldAll.fi)], 27, 0, [], []⟩
theorem s_LoadState.hok (hE : EOk Tryz.prog (s_LoadState.E)) : HintOk Tryz.prog s_LoadState.E (bodyOf Tryz.f8) (.a) := HintOk.n1 (Q := True) (by kernel_rfl) trivial
theorem s_LoadState.hE : EOk Tryz.prog (s_LoadState.E) := EOk.of ttOk (⟨s_WalRead.fok, ⟨s_l05FoldAll.fok, trivial⟩⟩)
theorem s_LoadState.fok : FOk Tryz.prog 8 s_LoadState.fi :=
  fokS (E := s_LoadState.E) (wy := ⟨[[none, none, some (kEntry, false)], [none]], [[]], [⟨2, true, 2, .slv [0] kEntry⟩]⟩) (h := (fun gs => .a)) (G := fun t g => s_LoadState.F (fun y0 y1 y2 y3 => g (y0, y1, y2, y3)) t.1.1 t.1.2.1) (by kernel_rfl) s_LoadState.hE Tryz.func8 (by kernel_rfl) rfl (Nat.le_refl _) (fun t => HintOk.n1 (by kernel_rfl) (s_LoadState.hok s_LoadState.hE)) (fun t g => s_LoadState_nat g t.1.1 t.1.2.1) (fun t => by kernel_rfl)
/-! loop.example_g00220_laws.toFile -/
def l_toFile.F {R : Type} (kk : ByteArray → ByteArray → Int → Option R) (a_Name : ByteArray) (a_Data : ByteArray) (a_Sure : Int) : Option R :=
  kk a_Name a_Data a_Sure
theorem l_toFile.F_nat {R S : Type} (g : R → Option S) (kk : ByteArray → ByteArray → Int → Option R) (a_Name : ByteArray) (a_Data : ByteArray) (a_Sure : Int) : l_toFile.F (fun y0 y1 y2 => (kk y0 y1 y2).bind g) a_Name a_Data a_Sure = (l_toFile.F kk a_Name a_Data a_Sure).bind g := by
  simp only [l_toFile.F, grd_bind, cnd_bind, bnd_bind, non_bind]
def l_toFile (a_Name : ByteArray) (a_Data : ByteArray) (a_Sure : Int) : Option (ByteArray × ByteArray × Int) := l_toFile.F (fun y0 y1 y2 => some (y0, y1, y2)) a_Name a_Data a_Sure
theorem l_toFile_nat {S : Type} (g : (ByteArray × ByteArray × Int) → Option S) (a_Name : ByteArray) (a_Data : ByteArray) (a_Sure : Int) : l_toFile.F (fun y0 y1 y2 => g (y0, y1, y2)) a_Name a_Data a_Sure = (l_toFile a_Name a_Data a_Sure).bind g := l_toFile.F_nat g (fun y0 y1 y2 => some (y0, y1, y2)) a_Name a_Data a_Sure
def l_toFile.out : (ByteArray × ByteArray × Int) → CRes := fun a => ⟨encL SV.enc [.agg [.str, .str, .int .i64]] ((a.1, a.2.1, a.2.2, ()), ()), [encL SC.enc [] ()]⟩
def l_toFile.ps : List PS := [.val [none, none, none]]
def l_toFile.sA : List SA := [.v (.agg [.str, .str, .int .i64])]
def l_toFile.fi : FI := FIs l_toFile.sA (ByteArray × ByteArray × Int) (fun t => l_toFile t.1.1 t.1.2.1 t.1.2.2.1) l_toFile.out l_toFile.ps
def l_toFile.E : Env := ⟨tt, lkF [], 14, 0, [], []⟩
theorem l_toFile.hok (hE : EOk Tryz.prog (l_toFile.E)) : HintOk Tryz.prog l_toFile.E (bodyOf Tryz.f90) (.a) := HintOk.n1 (Q := True) (by kernel_rfl) trivial
theorem l_toFile.hE : EOk Tryz.prog (l_toFile.E) := EOk.of ttOk (trivial)
theorem l_toFile.fok : FOk Tryz.prog 90 l_toFile.fi :=
  fokS (E := l_toFile.E) (wy := ⟨[[none, none, none]], [[]], []⟩) (h := (fun gs => .a)) (G := fun t g => l_toFile.F (fun y0 y1 y2 => g (y0, y1, y2)) t.1.1 t.1.2.1 t.1.2.2.1) (by kernel_rfl) l_toFile.hE Tryz.func90 (by kernel_rfl) rfl (Nat.le_refl _) (fun t => HintOk.n1 (by kernel_rfl) (l_toFile.hok l_toFile.hE)) (fun t g => l_toFile_nat g t.1.1 t.1.2.1 t.1.2.2.1) (fun t => by kernel_rfl)
/-! loop.example_g00220_laws.toFileS -/
def l_toFileS.l1 {R : Type} (kke0 : List (El kFile) → Option R) : Nat → List (El kFile) → Int → List (El kFile) → Option R
  | 0, _, _, _ => none
  | n + 1, a, i, out =>
    cond (decide (i < (List.length a : Int))) (
      grd (gIx i (List.length a)) <|
      (l_toFile ((rdE kFile a (Int.toNat i)).1) ((rdE kFile a (Int.toNat i)).2.1) ((rdE kFile a (Int.toNat i)).2.2)).bind fun r =>
      grd (gIx i (List.length out)) <|
      l_toFileS.l1 kke0 n a (IntKind.wrap .i64 (i + (1 : Int))) (setE kFile out (Int.toNat i) r)) (kke0 out)
theorem l_toFileS.l1_nat {R S : Type} (g : R → Option S) (kke0 : List (El kFile) → Option R) : ∀ (n : Nat) (a : List (El kFile)) (i : Int) (out : List (El kFile)), l_toFileS.l1 (fun y0 => (kke0 y0).bind g) n a i out = (l_toFileS.l1 kke0 n a i out).bind g := by
  intro n
  induction n with
  | zero => intros; rfl
  | succ n ih => intros; simp only [l_toFileS.l1, grd_bind, cnd_bind, bnd_bind, non_bind, ih]
def l_toFileS.F {R : Type} (kk : List (El kFile) → Option R) (a : List (El kFile)) : Option R :=
  grd (gMk (List.length a : Int) (List.length a : Int) 40) <|
  l_toFileS.l1 (fun out => kk out) fuel a (0 : Int) (List.replicate (Int.toNat (List.length a : Int)) (ByteArray.empty, (ByteArray.empty, (0 : Int))))
theorem l_toFileS.F_nat {R S : Type} (g : R → Option S) (kk : List (El kFile) → Option R) (a : List (El kFile)) : l_toFileS.F (fun y0 => (kk y0).bind g) a = (l_toFileS.F kk a).bind g := by
  simp only [l_toFileS.F, grd_bind, cnd_bind, bnd_bind, non_bind, ← l_toFileS.l1_nat]
def l_toFileS (a : List (El kFile)) : Option (List (El kFile)) := l_toFileS.F (fun y0 => some y0) a
theorem l_toFileS_nat {S : Type} (g : (List (El kFile)) → Option S) (a : List (El kFile)) : l_toFileS.F (fun y0 => g y0) a = (l_toFileS a).bind g := l_toFileS.F_nat g (fun y0 => some y0) a
def l_toFileS.out : (List (El kFile)) → CRes := fun a => ⟨encL SV.enc [.one (.own [] kFile true)] (a, ()), [encL SC.enc [] ()]⟩
def l_toFileS.ps : List PS := [.val [some (kFile, false)]]
def l_toFileS.sA : List SA := [.v (.one (.slv [] kFile))]
def l_toFileS.fi : FI := FIs l_toFileS.sA (List (El kFile)) (fun t => l_toFileS t.1) l_toFileS.out l_toFileS.ps
def l_toFileS.E : Env := ⟨tt, lkF [(90, l_toFile.fi)], 23, 0, [], []⟩
def l_toFileS.sh1 : SK := ⟨[.v (.one (.slv [1] kFile)), .v (.one (.slo 0)), .v (.one (.int .i64))], [.arr kFile [] true]⟩
def l_toFileS.sh1e0 : SK := ⟨[.v (.one (.slo 0))], [.arr kFile [] true]⟩
def l_toFileS.ko1 : Ex → List CastAt × List Nat
  | .nrm => ([], [])
  | .ret => ([], [])
  | .ext i => cond (Nat.beq i 0) ([], [3]) ([], [])
def l_toFileS.G1 (n : Nat) (R : Type) (t : l_toFileS.sh1.T) (K : Ex → Kp → Option R) : Option R := l_toFileS.l1 (fun y0 => K (.ext 0) (SK.enc l_toFileS.sh1e0 (((), ()), (y0, ())))) n t.1.1 t.1.2.2.1 t.2.1
def l_toFileS.S1 : Sum := ⟨([], [0, 3, 4]), sumF l_toFileS.sh1 (l_toFileS.G1 fuel), l_toFileS.ko1⟩
theorem l_toFileS.ok1 (hE : EOk Tryz.prog (l_toFileS.E)) : SumOk Tryz.prog l_toFileS.E (cB (cR (cL (cR (cR (bodyOf Tryz.f45)))))) (l_toFileS.S1) := by
  have hh : HintOk Tryz.prog l_toFileS.E (cB (cB (cR (cL (cR (cR (bodyOf Tryz.f45))))))) (.a) := HintOk.n1 (Q := True) (by kernel_rfl) trivial
  have h := loopS (kin := ([], [0, 3, 4])) (kout := l_toFileS.ko1) (sh := l_toFileS.sh1) (F := l_toFileS.G1) (ops_ok (hE.gv _)) (by kernel_rfl) hh (fun _ _ _ => rfl) (fun n R t K => by kernel_rfl) fuel
  exact HintOk.n1 (c := (cB (cR (cL (cR (cR (bodyOf Tryz.f45))))))) (h := .s (l_toFileS.S1)) (P := Tryz.prog) (E := l_toFileS.E) (by kernel_rfl) h
theorem l_toFileS.hok (hE : EOk Tryz.prog (l_toFileS.E)) : HintOk Tryz.prog l_toFileS.E (bodyOf Tryz.f45) (.n (.a) (.n (.a) (.n (.n (.a) (.b (.s (l_toFileS.S1)))) (.a)))) := HintOk.n1 (Q := (True) ∧ ((True) ∧ (((True) ∧ (SumOk Tryz.prog l_toFileS.E (cB (cR (cL (cR (cR (bodyOf Tryz.f45)))))) (l_toFileS.S1))) ∧ (True)))) (by kernel_rfl) ⟨trivial, ⟨trivial, ⟨⟨trivial, (l_toFileS.ok1 hE)⟩, trivial⟩⟩⟩
theorem l_toFileS.hE : EOk Tryz.prog (l_toFileS.E) := EOk.of ttOk (⟨l_toFile.fok, trivial⟩)
theorem l_toFileS.fok : FOk Tryz.prog 45 l_toFileS.fi :=
  fokS (E := l_toFileS.E) (wy := ⟨[[some (kFile, true)]], [[]], []⟩) (h := (fun gs => .n (.a) (.n (.a) (.n (.n (.a) (.b (.s (l_toFileS.S1)))) (.a))))) (G := fun t g => l_toFileS.F (fun y0 => g y0) t.1) (by kernel_rfl) l_toFileS.hE Tryz.func45 (by kernel_rfl) rfl (Nat.le_refl _) (fun t => HintOk.n1 (by kernel_rfl) (l_toFileS.hok l_toFileS.hE)) (fun t g => l_toFileS_nat g t.1) (fun t => by kernel_rfl)
/-! loop.example_g00220_laws.toDisk -/
def l_toDisk.F {R : Type} (kk : Int → List (El kFile) → Option R) (a_Room : Int) (a_Files : List (El kFile)) : Option R :=
  (l_toFileS a_Files).bind fun r =>
  kk a_Room r
theorem l_toDisk.F_nat {R S : Type} (g : R → Option S) (kk : Int → List (El kFile) → Option R) (a_Room : Int) (a_Files : List (El kFile)) : l_toDisk.F (fun y0 y1 => (kk y0 y1).bind g) a_Room a_Files = (l_toDisk.F kk a_Room a_Files).bind g := by
  simp only [l_toDisk.F, grd_bind, cnd_bind, bnd_bind, non_bind]
def l_toDisk (a_Room : Int) (a_Files : List (El kFile)) : Option (Int × List (El kFile)) := l_toDisk.F (fun y0 y1 => some (y0, y1)) a_Room a_Files
theorem l_toDisk_nat {S : Type} (g : (Int × List (El kFile)) → Option S) (a_Room : Int) (a_Files : List (El kFile)) : l_toDisk.F (fun y0 y1 => g (y0, y1)) a_Room a_Files = (l_toDisk a_Room a_Files).bind g := l_toDisk.F_nat g (fun y0 y1 => some (y0, y1)) a_Room a_Files
def l_toDisk.out : (Int × List (El kFile)) → CRes := fun a => ⟨encL SV.enc [.agg [.int .i64, .own [] kFile true]] ((a.1, a.2, ()), ()), [encL SC.enc [] ()]⟩
def l_toDisk.ps : List PS := [.val [none, some (kFile, false)]]
def l_toDisk.sA : List SA := [.v (.agg [.int .i64, .slv [] kFile])]
def l_toDisk.fi : FI := FIs l_toDisk.sA (Int × List (El kFile)) (fun t => l_toDisk t.1.1 t.1.2.1) l_toDisk.out l_toDisk.ps
def l_toDisk.E : Env := ⟨tt, lkF [(45, l_toFileS.fi)], 12, 0, [], []⟩
theorem l_toDisk.hok (hE : EOk Tryz.prog (l_toDisk.E)) : HintOk Tryz.prog l_toDisk.E (bodyOf Tryz.f9) (.a) := HintOk.n1 (Q := True) (by kernel_rfl) trivial
theorem l_toDisk.hE : EOk Tryz.prog (l_toDisk.E) := EOk.of ttOk (⟨l_toFileS.fok, trivial⟩)
theorem l_toDisk.fok : FOk Tryz.prog 9 l_toDisk.fi :=
  fokS (E := l_toDisk.E) (wy := ⟨[[none, some (kFile, true)]], [[]], []⟩) (h := (fun gs => .a)) (G := fun t g => l_toDisk.F (fun y0 y1 => g (y0, y1)) t.1.1 t.1.2.1) (by kernel_rfl) l_toDisk.hE Tryz.func9 (by kernel_rfl) rfl (Nat.le_refl _) (fun t => HintOk.n1 (by kernel_rfl) (l_toDisk.hok l_toDisk.hE)) (fun t g => l_toDisk_nat g t.1.1 t.1.2.1) (fun t => by kernel_rfl)
/-! loop.example_g00220_impl.within -/
def i_within.F {R : Type} (kk : Bool → Option R) (n_ : Int) (low : Int) (high : Int) : Option R :=
  cond (decide (n_ ≥ low)) (kk (decide (n_ ≤ high))) (kk false)
theorem i_within.F_nat {R S : Type} (g : R → Option S) (kk : Bool → Option R) (n_ : Int) (low : Int) (high : Int) : i_within.F (fun y0 => (kk y0).bind g) n_ low high = (i_within.F kk n_ low high).bind g := by
  simp only [i_within.F, grd_bind, cnd_bind, bnd_bind, non_bind]
def i_within (n_ : Int) (low : Int) (high : Int) : Option Bool := i_within.F (fun y0 => some y0) n_ low high
theorem i_within_nat {S : Type} (g : Bool → Option S) (n_ : Int) (low : Int) (high : Int) : i_within.F (fun y0 => g y0) n_ low high = (i_within n_ low high).bind g := i_within.F_nat g (fun y0 => some y0) n_ low high
def i_within.out : Bool → CRes := fun a => ⟨encL SV.enc [.one (.bool)] (a, ()), [encL SC.enc [] (), encL SC.enc [] (), encL SC.enc [] ()]⟩
def i_within.ps : List PS := [.val [none], .val [none], .val [none]]
def i_within.sA : List SA := [.v (.one (.int .i64)), .v (.one (.int .i64)), .v (.one (.int .i64))]
def i_within.fi : FI := FIs i_within.sA (Bool) (fun t => i_within t.1 t.2.1 t.2.2.1) i_within.out i_within.ps
def i_within.E : Env := ⟨tt, lkF [], 15, 0, [], []⟩
theorem i_within.hok (hE : EOk Tryz.prog (i_within.E)) : HintOk Tryz.prog i_within.E (bodyOf Tryz.f61) (.a) := HintOk.n1 (Q := True) (by kernel_rfl) trivial
theorem i_within.hE : EOk Tryz.prog (i_within.E) := EOk.of ttOk (trivial)
theorem i_within.fok : FOk Tryz.prog 61 i_within.fi :=
  fokS (E := i_within.E) (wy := ⟨[[none]], [[], [], []], []⟩) (h := (fun gs => .a)) (G := fun t g => i_within.F (fun y0 => g y0) t.1 t.2.1 t.2.2.1) (by kernel_rfl) i_within.hE Tryz.func61 (by kernel_rfl) rfl (Nat.le_refl _) (fun t => HintOk.n1 (by kernel_rfl) (i_within.hok i_within.hE)) (fun t g => i_within_nat g t.1 t.2.1 t.2.2.1) (fun t => by kernel_rfl)
end
end Go.Proofs.YtdpjbeeokimnaaaGreatDoorA
