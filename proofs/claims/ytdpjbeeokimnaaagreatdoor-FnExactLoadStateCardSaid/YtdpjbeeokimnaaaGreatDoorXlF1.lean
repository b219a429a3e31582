/-
  Functions of the program, and that the small machine's runs are these. No condition.
  Printed by wip/amp/main.py (a session's own program) out of Lean's print of the program; Lean's kernel checks it.
-/
import Derived.Test.YtdpjbeeokimnaaaGreatDoorXlF0
namespace Go.Proofs.YtdpjbeeokimnaaaGreatDoorA
open Go
noncomputable section
set_option linter.unusedVariables false
set_option linter.unusedSimpArgs false
set_option maxRecDepth 100000

/-! _loop.example_g00220_impl.Disk_.used -/
def i_Disk_used.l1 {R : Type} (kke0 : Int → Option R) : Nat → Int → List (El kFile) → Int → Int → Option R
  | 0, _, _, _, _ => none
  | n + 1, sum, l, i, i1 =>
    cond (decide (i1 < i)) (
      grd (gIx i1 (List.length l)) <|
      i_Disk_used.l1 kke0 n (IntKind.wrap .i64 (sum + (ByteArray.size (rdE kFile l (Int.toNat i1)).2.1 : Int))) l i (IntKind.wrap .i64 (i1 + (1 : Int)))) (kke0 sum)
theorem i_Disk_used.l1_nat {R S : Type} (g : R → Option S) (kke0 : Int → Option R) : ∀ (n : Nat) (sum : Int) (l : List (El kFile)) (i : Int) (i1 : Int), i_Disk_used.l1 (fun y0 => (kke0 y0).bind g) n sum l i i1 = (i_Disk_used.l1 kke0 n sum l i i1).bind g := by
  intro n
  induction n with
  | zero => intros; rfl
  | succ n ih => intros; simp only [i_Disk_used.l1, grd_bind, cnd_bind, bnd_bind, non_bind, ih]
def i_Disk_used.F {R : Type} (kk : Int → Option R) (d_Room : Int) (d_Files : List (El kFile)) : Option R :=
  i_Disk_used.l1 (fun sum => kk sum) fuel (0 : Int) d_Files (List.length d_Files : Int) (0 : Int)
theorem i_Disk_used.F_nat {R S : Type} (g : R → Option S) (kk : Int → Option R) (d_Room : Int) (d_Files : List (El kFile)) : i_Disk_used.F (fun y0 => (kk y0).bind g) d_Room d_Files = (i_Disk_used.F kk d_Room d_Files).bind g := by
  simp only [i_Disk_used.F, grd_bind, cnd_bind, bnd_bind, non_bind, ← i_Disk_used.l1_nat]
def i_Disk_used (d_Room : Int) (d_Files : List (El kFile)) : Option Int := i_Disk_used.F (fun y0 => some y0) d_Room d_Files
theorem i_Disk_used_nat {S : Type} (g : Int → Option S) (d_Room : Int) (d_Files : List (El kFile)) : i_Disk_used.F (fun y0 => g y0) d_Room d_Files = (i_Disk_used d_Room d_Files).bind g := i_Disk_used.F_nat g (fun y0 => some y0) d_Room d_Files
def i_Disk_used.out : Int → CRes := fun a => ⟨encL SV.enc [.one (.int .i64)] (a, ()), [encL SC.enc [] ()]⟩
def i_Disk_used.ps : List PS := [.val [none, some (kFile, false)]]
def i_Disk_used.sA : List SA := [.v (.agg [.int .i64, .slv [] kFile])]
def i_Disk_used.fi : FI := FIs i_Disk_used.sA (Int) (fun t => i_Disk_used t.1.1 t.1.2.1) i_Disk_used.out i_Disk_used.ps
def i_Disk_used.E : Env := ⟨tt, lkF [], 20, 0, [], []⟩
def i_Disk_used.sh1 : SK := ⟨[.v (.one (.int .i64)), .v (.one (.slv [1] kFile)), .v (.one (.int .i64)), .v (.one (.int .i64))], []⟩
def i_Disk_used.sh1e0 : SK := ⟨[.v (.one (.int .i64))], []⟩
def i_Disk_used.ko1 : Ex → List CastAt × List Nat
  | .nrm => ([], [])
  | .ret => ([], [])
  | .ext i => cond (Nat.beq i 0) ([], [3]) ([], [])
def i_Disk_used.G1 (n : Nat) (R : Type) (t : i_Disk_used.sh1.T) (K : Ex → Kp → Option R) : Option R := i_Disk_used.l1 (fun y0 => K (.ext 0) (SK.enc i_Disk_used.sh1e0 ((y0, ()), ()))) n t.1.1 t.1.2.1 t.1.2.2.1 t.1.2.2.2.1
def i_Disk_used.S1 : Sum := ⟨([], [3, 7, 8, 9]), sumF i_Disk_used.sh1 (i_Disk_used.G1 fuel), i_Disk_used.ko1⟩
theorem i_Disk_used.ok1 (hE : EOk Tryz.prog (i_Disk_used.E)) : SumOk Tryz.prog i_Disk_used.E (cB (cR (cL (cR (cR (bodyOf Tryz.f108)))))) (i_Disk_used.S1) := by
  have hh : HintOk Tryz.prog i_Disk_used.E (cB (cB (cR (cL (cR (cR (bodyOf Tryz.f108))))))) (.a) := HintOk.n1 (Q := True) (by kernel_rfl) trivial
  have h := loopS (kin := ([], [3, 7, 8, 9])) (kout := i_Disk_used.ko1) (sh := i_Disk_used.sh1) (F := i_Disk_used.G1) (ops_ok (hE.gv _)) (by kernel_rfl) hh (fun _ _ _ => rfl) (fun n R t K => by kernel_rfl) fuel
  exact HintOk.n1 (c := (cB (cR (cL (cR (cR (bodyOf Tryz.f108))))))) (h := .s (i_Disk_used.S1)) (P := Tryz.prog) (E := i_Disk_used.E) (by kernel_rfl) h
theorem i_Disk_used.hok (hE : EOk Tryz.prog (i_Disk_used.E)) : HintOk Tryz.prog i_Disk_used.E (bodyOf Tryz.f108) (.n (.a) (.n (.a) (.n (.n (.a) (.b (.s (i_Disk_used.S1)))) (.a)))) := HintOk.n1 (Q := (True) ∧ ((True) ∧ (((True) ∧ (SumOk Tryz.prog i_Disk_used.E (cB (cR (cL (cR (cR (bodyOf Tryz.f108)))))) (i_Disk_used.S1))) ∧ (True)))) (by kernel_rfl) ⟨trivial, ⟨trivial, ⟨⟨trivial, (i_Disk_used.ok1 hE)⟩, trivial⟩⟩⟩
theorem i_Disk_used.hE : EOk Tryz.prog (i_Disk_used.E) := EOk.of ttOk (trivial)
theorem i_Disk_used.fok : FOk Tryz.prog 108 i_Disk_used.fi :=
  fokS (E := i_Disk_used.E) (wy := ⟨[[none]], [[]], []⟩) (h := (fun gs => .n (.a) (.n (.a) (.n (.n (.a) (.b (.s (i_Disk_used.S1)))) (.a))))) (G := fun t g => i_Disk_used.F (fun y0 => g y0) t.1.1 t.1.2.1) (by kernel_rfl) i_Disk_used.hE Tryz.func108 (by kernel_rfl) rfl (Nat.le_refl _) (fun t => HintOk.n1 (by kernel_rfl) (i_Disk_used.hok i_Disk_used.hE)) (fun t g => i_Disk_used_nat g t.1.1 t.1.2.1) (fun t => by kernel_rfl)
/-! loop.example_g00220_impl.NameOK -/
def i_NameOK.j1 {R : Type} (kkn : ByteArray → Int → Int → Bool → Int → Int → Option R) (t_ : ByteArray) (i : Int) (b : Int) (i1 : Int) (i2 : Int) : Option R :=
  cond (decide (b ≥ (97 : Int))) (
    cond (decide (b ≤ (122 : Int))) (kkn t_ i b true i1 i2) (
      cond (decide (b ≥ (65 : Int))) (cond (decide (b ≤ (90 : Int))) (kkn t_ i b true i1 i2) (kkn t_ i b (b == (95 : Int)) i1 i2)) (kkn t_ i b (b == (95 : Int)) i1 i2))) (
    cond (decide (b ≥ (65 : Int))) (cond (decide (b ≤ (90 : Int))) (kkn t_ i b true i1 i2) (kkn t_ i b (b == (95 : Int)) i1 i2)) (kkn t_ i b (b == (95 : Int)) i1 i2))
theorem i_NameOK.j1_nat {R S : Type} (g : R → Option S) (kkn : ByteArray → Int → Int → Bool → Int → Int → Option R) (t_ : ByteArray) (i : Int) (b : Int) (i1 : Int) (i2 : Int) : i_NameOK.j1 (fun y0 y1 y2 y3 y4 y5 => (kkn y0 y1 y2 y3 y4 y5).bind g) t_ i b i1 i2 = (i_NameOK.j1 kkn t_ i b i1 i2).bind g := by
  simp only [i_NameOK.j1, grd_bind, cnd_bind, bnd_bind, non_bind]
def i_NameOK.l2 {R : Type} (kke0 : ByteArray → Option R) (kkr : Bool → Option R) : Nat → ByteArray → Int → Int → Option R
  | 0, _, _, _ => none
  | n + 1, t_, i, i1 =>
    cond (decide (i1 < i)) (
      grd (gIx i1 (ByteArray.size t_)) <|
      i_NameOK.j1 (fun t_1 i2 b letter i3 i4 =>
        cond (!letter) (
          cond (i2 == (0 : Int)) (kkr false) (
            cond (decide (b < (48 : Int))) (kkr false) (
              cond (decide (b > (57 : Int))) (kkr false) (i_NameOK.l2 kke0 kkr n t_1 i3 (IntKind.wrap .i64 (i4 + (1 : Int))))))) (i_NameOK.l2 kke0 kkr n t_1 i3 (IntKind.wrap .i64 (i4 + (1 : Int))))) t_ i1 (byteAt t_ i1) i i1) (kke0 t_)
theorem i_NameOK.l2_nat {R S : Type} (g : R → Option S) (kke0 : ByteArray → Option R) (kkr : Bool → Option R) : ∀ (n : Nat) (t_ : ByteArray) (i : Int) (i1 : Int), i_NameOK.l2 (fun y0 => (kke0 y0).bind g) (fun y0 => (kkr y0).bind g) n t_ i i1 = (i_NameOK.l2 kke0 kkr n t_ i i1).bind g := by
  intro n
  induction n with
  | zero => intros; rfl
  | succ n ih => intros; simp only [i_NameOK.l2, grd_bind, cnd_bind, bnd_bind, non_bind, ← i_NameOK.j1_nat, ih]
def i_NameOK.F {R : Type} (kk : Bool → Option R) (t_ : ByteArray) : Option R :=
  i_NameOK.l2 (fun t_1 =>
    (i_within (ByteArray.size t_1 : Int) (1 : Int) (40 : Int)).bind fun r =>
    kk r) (fun b => kk b) fuel t_ (ByteArray.size t_ : Int) (0 : Int)
theorem i_NameOK.F_nat {R S : Type} (g : R → Option S) (kk : Bool → Option R) (t_ : ByteArray) : i_NameOK.F (fun y0 => (kk y0).bind g) t_ = (i_NameOK.F kk t_).bind g := by
  simp only [i_NameOK.F, grd_bind, cnd_bind, bnd_bind, non_bind, ← i_NameOK.l2_nat]
def i_NameOK (t_ : ByteArray) : Option Bool := i_NameOK.F (fun y0 => some y0) t_
theorem i_NameOK_nat {S : Type} (g : Bool → Option S) (t_ : ByteArray) : i_NameOK.F (fun y0 => g y0) t_ = (i_NameOK t_).bind g := i_NameOK.F_nat g (fun y0 => some y0) t_
def i_NameOK.out : Bool → CRes := fun a => ⟨encL SV.enc [.one (.bool)] (a, ()), [encL SC.enc [] ()]⟩
def i_NameOK.ps : List PS := [.val [none]]
def i_NameOK.sA : List SA := [.v (.one (.str))]
def i_NameOK.fi : FI := FIs i_NameOK.sA (Bool) (fun t => i_NameOK t.1) i_NameOK.out i_NameOK.ps
def i_NameOK.E : Env := ⟨tt, lkF [(61, i_within.fi)], 50, 0, [], []⟩
def i_NameOK.sh1 : SK := ⟨[.v (.one (.str)), .v (.one (.int .i64)), .v (.one (.int .u8)), .v (.one (.int .i64)), .v (.one (.int .i64))], []⟩
def i_NameOK.sh1n : SK := ⟨[.v (.one (.str)), .v (.one (.int .i64)), .v (.one (.int .u8)), .v (.one (.bool)), .v (.one (.int .i64)), .v (.one (.int .i64))], []⟩
def i_NameOK.ko1 : Ex → List CastAt × List Nat
  | .nrm => ([], [0, 3, 4, 5, 7, 8])
  | .ret => ([], [])
  | .ext i => ([], [])
def i_NameOK.G1 (R : Type) (t : i_NameOK.sh1.T) (K : Ex → Kp → Option R) : Option R := i_NameOK.j1 (fun y0 y1 y2 y3 y4 y5 => K .nrm (SK.enc i_NameOK.sh1n ((y0, y1, y2, y3, y4, y5, ()), ()))) t.1.1 t.1.2.1 t.1.2.2.1 t.1.2.2.2.1 t.1.2.2.2.2.1
def i_NameOK.S1 : Sum := ⟨([], [0, 3, 4, 7, 8]), sumF i_NameOK.sh1 (i_NameOK.G1), i_NameOK.ko1⟩
theorem i_NameOK.ok1 (hE : EOk Tryz.prog (i_NameOK.E)) : SumOk Tryz.prog i_NameOK.E (cL (cR (cR (cB (cL (cR (cR (cB (cB (cR (cL (cR (bodyOf Tryz.f109))))))))))))) (i_NameOK.S1) := by
  have hh : HintOk Tryz.prog i_NameOK.E (cL (cR (cR (cB (cL (cR (cR (cB (cB (cR (cL (cR (bodyOf Tryz.f109))))))))))))) (.a) := HintOk.n1 (Q := True) (by kernel_rfl) trivial
  exact sumS (kin := ([], [0, 3, 4, 7, 8])) (kout := i_NameOK.ko1) (sh := i_NameOK.sh1) (F := i_NameOK.G1) (ops_ok (hE.gv _)) (by kernel_rfl) hh (fun R t K => by kernel_rfl)
def i_NameOK.sh2 : SK := ⟨[.v (.one (.str)), .v (.one (.int .i64)), .v (.one (.int .i64))], []⟩
def i_NameOK.sh2e0 : SK := ⟨[.v (.one (.str))], []⟩
def i_NameOK.sh2r : SK := ⟨[.v (.one (.bool))], []⟩
def i_NameOK.ko2 : Ex → List CastAt × List Nat
  | .nrm => ([], [])
  | .ret => ([], [2])
  | .ext i => cond (Nat.beq i 0) ([], [0]) ([], [])
def i_NameOK.G2 (n : Nat) (R : Type) (t : i_NameOK.sh2.T) (K : Ex → Kp → Option R) : Option R := i_NameOK.l2 (fun y0 => K (.ext 0) (SK.enc i_NameOK.sh2e0 ((y0, ()), ()))) (fun y0 => K .ret (SK.enc i_NameOK.sh2r ((y0, ()), ()))) n t.1.1 t.1.2.1 t.1.2.2.1
def i_NameOK.S2 : Sum := ⟨([], [0, 7, 8]), sumF i_NameOK.sh2 (i_NameOK.G2 fuel), i_NameOK.ko2⟩
theorem i_NameOK.ok2 (hE : EOk Tryz.prog (i_NameOK.E)) : SumOk Tryz.prog i_NameOK.E (cB (cR (cL (cR (bodyOf Tryz.f109))))) (i_NameOK.S2) := by
  have hh : HintOk Tryz.prog i_NameOK.E (cB (cB (cR (cL (cR (bodyOf Tryz.f109)))))) (.n (.a) (.n (.a) (.n (.b (.n (.a) (.n (.a) (.n (.s (i_NameOK.S1)) (.a))))) (.a)))) := HintOk.n1 (Q := (True) ∧ ((True) ∧ (((True) ∧ ((True) ∧ ((SumOk Tryz.prog i_NameOK.E (cL (cR (cR (cB (cL (cR (cR (cB (cB (cR (cL (cR (bodyOf Tryz.f109))))))))))))) (i_NameOK.S1)) ∧ (True)))) ∧ (True)))) (by kernel_rfl) ⟨trivial, ⟨trivial, ⟨⟨trivial, ⟨trivial, ⟨(i_NameOK.ok1 hE), trivial⟩⟩⟩, trivial⟩⟩⟩
  have h := loopS (kin := ([], [0, 7, 8])) (kout := i_NameOK.ko2) (sh := i_NameOK.sh2) (F := i_NameOK.G2) (ops_ok (hE.gv _)) (by kernel_rfl) hh (fun _ _ _ => rfl) (fun n R t K => by kernel_rfl) fuel
  exact HintOk.n1 (c := (cB (cR (cL (cR (bodyOf Tryz.f109)))))) (h := .s (i_NameOK.S2)) (P := Tryz.prog) (E := i_NameOK.E) (by kernel_rfl) h
theorem i_NameOK.hok (hE : EOk Tryz.prog (i_NameOK.E)) : HintOk Tryz.prog i_NameOK.E (bodyOf Tryz.f109) (.n (.a) (.n (.n (.a) (.b (.s (i_NameOK.S2)))) (.a))) := HintOk.n1 (Q := (True) ∧ (((True) ∧ (SumOk Tryz.prog i_NameOK.E (cB (cR (cL (cR (bodyOf Tryz.f109))))) (i_NameOK.S2))) ∧ (True))) (by kernel_rfl) ⟨trivial, ⟨⟨trivial, (i_NameOK.ok2 hE)⟩, trivial⟩⟩
theorem i_NameOK.hE : EOk Tryz.prog (i_NameOK.E) := EOk.of ttOk (⟨i_within.fok, trivial⟩)
theorem i_NameOK.fok : FOk Tryz.prog 109 i_NameOK.fi :=
  fokS (E := i_NameOK.E) (wy := ⟨[[none]], [[]], []⟩) (h := (fun gs => .n (.a) (.n (.n (.a) (.b (.s (i_NameOK.S2)))) (.a)))) (G := fun t g => i_NameOK.F (fun y0 => g y0) t.1) (by kernel_rfl) i_NameOK.hE Tryz.func109 (by kernel_rfl) rfl (Nat.le_refl _) (fun t => HintOk.n1 (by kernel_rfl) (i_NameOK.hok i_NameOK.hE)) (fun t g => i_NameOK_nat g t.1) (fun t => by kernel_rfl)
/-! loop.example_g00220_impl.DiskOK -/
def i_DiskOK.l1 {R : Type} (kke0 : Option R) (kkr : Bool → Option R) : Nat → List (El kFile) → Int → Int → Int → List (El kFile) → Option R
  | 0, _, _, _, _, _ => none
  | n + 1, l, i, i1, d, d1 =>
    cond (decide (i1 < i)) (
      grd (gIx i1 (List.length l)) <|
      (i_NameOK ((rdE kFile l (Int.toNat i1)).1)).bind fun r =>
      cond (!r) (kkr false) (
        cond (decide (i1 > (0 : Int))) (
          grd (gIx (IntKind.wrap .i64 (i1 - (1 : Int))) (List.length d1)) <|
          cond (!(sLt (rdE kFile d1 (Int.toNat (IntKind.wrap .i64 (i1 - (1 : Int))))).1 (rdE kFile l (Int.toNat i1)).1)) (kkr false) (
            (i_within ((rdE kFile l (Int.toNat i1)).2.2) (0 : Int) (ByteArray.size (rdE kFile l (Int.toNat i1)).2.1 : Int)).bind fun r1 =>
            cond (!r1) (kkr false) (i_DiskOK.l1 kke0 kkr n l i (IntKind.wrap .i64 (i1 + (1 : Int))) d d1))) (
          (i_within ((rdE kFile l (Int.toNat i1)).2.2) (0 : Int) (ByteArray.size (rdE kFile l (Int.toNat i1)).2.1 : Int)).bind fun r2 =>
          cond (!r2) (kkr false) (i_DiskOK.l1 kke0 kkr n l i (IntKind.wrap .i64 (i1 + (1 : Int))) d d1)))) (kke0)
theorem i_DiskOK.l1_nat {R S : Type} (g : R → Option S) (kke0 : Option R) (kkr : Bool → Option R) : ∀ (n : Nat) (l : List (El kFile)) (i : Int) (i1 : Int) (d : Int) (d1 : List (El kFile)), i_DiskOK.l1 (kke0.bind g) (fun y0 => (kkr y0).bind g) n l i i1 d d1 = (i_DiskOK.l1 kke0 kkr n l i i1 d d1).bind g := by
  intro n
  induction n with
  | zero => intros; rfl
  | succ n ih => intros; simp only [i_DiskOK.l1, grd_bind, cnd_bind, bnd_bind, non_bind, ih]
def i_DiskOK.F {R : Type} (kk : Bool → Option R) (d_Room : Int) (d_Files : List (El kFile)) : Option R :=
  (i_within d_Room (0 : Int) (3000 : Int)).bind fun r =>
  cond (!r) (kk false) (
    cond (decide ((List.length d_Files : Int) > (8 : Int))) (kk false) (
      (i_Disk_used d_Room d_Files).bind fun r1 =>
      cond (decide (r1 > d_Room)) (kk false) (
        i_DiskOK.l1 (kk true) (fun b => kk b) fuel d_Files (List.length d_Files : Int) (0 : Int) d_Room d_Files)))
theorem i_DiskOK.F_nat {R S : Type} (g : R → Option S) (kk : Bool → Option R) (d_Room : Int) (d_Files : List (El kFile)) : i_DiskOK.F (fun y0 => (kk y0).bind g) d_Room d_Files = (i_DiskOK.F kk d_Room d_Files).bind g := by
  simp only [i_DiskOK.F, grd_bind, cnd_bind, bnd_bind, non_bind, ← i_DiskOK.l1_nat]
def i_DiskOK (d_Room : Int) (d_Files : List (El kFile)) : Option Bool := i_DiskOK.F (fun y0 => some y0) d_Room d_Files
theorem i_DiskOK_nat {S : Type} (g : Bool → Option S) (d_Room : Int) (d_Files : List (El kFile)) : i_DiskOK.F (fun y0 => g y0) d_Room d_Files = (i_DiskOK d_Room d_Files).bind g := i_DiskOK.F_nat g (fun y0 => some y0) d_Room d_Files
def i_DiskOK.out : Bool → CRes := fun a => ⟨encL SV.enc [.one (.bool)] (a, ()), [encL SC.enc [] ()]⟩
def i_DiskOK.ps : List PS := [.val [none, some (kFile, false)]]
def i_DiskOK.sA : List SA := [.v (.agg [.int .i64, .slv [] kFile])]
def i_DiskOK.fi : FI := FIs i_DiskOK.sA (Bool) (fun t => i_DiskOK t.1.1 t.1.2.1) i_DiskOK.out i_DiskOK.ps
def i_DiskOK.E : Env := ⟨tt, lkF [(61, i_within.fi), (108, i_Disk_used.fi), (109, i_NameOK.fi)], 60, 0, [], []⟩
def i_DiskOK.sh1 : SK := ⟨[.v (.one (.bptr 0 0)), .v (.one (.slv [1] kFile)), .v (.one (.int .i64)), .v (.one (.int .i64))], [.box [.int .i64, .slv [1] kFile]]⟩
def i_DiskOK.sh1e0 : SK := ⟨[], []⟩
def i_DiskOK.sh1r : SK := ⟨[.v (.one (.bool))], []⟩
def i_DiskOK.ko1 : Ex → List CastAt × List Nat
  | .nrm => ([], [])
  | .ret => ([], [2])
  | .ext i => cond (Nat.beq i 0) ([], []) ([], [])
def i_DiskOK.G1 (n : Nat) (R : Type) (t : i_DiskOK.sh1.T) (K : Ex → Kp → Option R) : Option R := i_DiskOK.l1 (K (.ext 0) (SK.enc i_DiskOK.sh1e0 ((), ()))) (fun y0 => K .ret (SK.enc i_DiskOK.sh1r ((y0, ()), ()))) n t.1.2.1 t.1.2.2.1 t.1.2.2.2.1 t.2.1.1 t.2.1.2.1
def i_DiskOK.S1 : Sum := ⟨([], [1, 23, 24, 25]), sumF i_DiskOK.sh1 (i_DiskOK.G1 fuel), i_DiskOK.ko1⟩
theorem i_DiskOK.ok1 (hE : EOk Tryz.prog (i_DiskOK.E)) : SumOk Tryz.prog i_DiskOK.E (cB (cR (cL (cR (cR (bodyOf Tryz.f64)))))) (i_DiskOK.S1) := by
  have hh : HintOk Tryz.prog i_DiskOK.E (cB (cB (cR (cL (cR (cR (bodyOf Tryz.f64))))))) (.a) := HintOk.n1 (Q := True) (by kernel_rfl) trivial
  have h := loopS (kin := ([], [1, 23, 24, 25])) (kout := i_DiskOK.ko1) (sh := i_DiskOK.sh1) (F := i_DiskOK.G1) (ops_ok (hE.gv _)) (by kernel_rfl) hh (fun _ _ _ => rfl) (fun n R t K => by kernel_rfl) fuel
  exact HintOk.n1 (c := (cB (cR (cL (cR (cR (bodyOf Tryz.f64))))))) (h := .s (i_DiskOK.S1)) (P := Tryz.prog) (E := i_DiskOK.E) (by kernel_rfl) h
theorem i_DiskOK.hok (hE : EOk Tryz.prog (i_DiskOK.E)) : HintOk Tryz.prog i_DiskOK.E (bodyOf Tryz.f64) (.n (.a) (.n (.a) (.n (.n (.a) (.b (.s (i_DiskOK.S1)))) (.a)))) := HintOk.n1 (Q := (True) ∧ ((True) ∧ (((True) ∧ (SumOk Tryz.prog i_DiskOK.E (cB (cR (cL (cR (cR (bodyOf Tryz.f64)))))) (i_DiskOK.S1))) ∧ (True)))) (by kernel_rfl) ⟨trivial, ⟨trivial, ⟨⟨trivial, (i_DiskOK.ok1 hE)⟩, trivial⟩⟩⟩
theorem i_DiskOK.hE : EOk Tryz.prog (i_DiskOK.E) := EOk.of ttOk (⟨i_within.fok, ⟨i_Disk_used.fok, ⟨i_NameOK.fok, trivial⟩⟩⟩)
theorem i_DiskOK.fok : FOk Tryz.prog 64 i_DiskOK.fi :=
  fokS (E := i_DiskOK.E) (wy := ⟨[[none]], [[]], []⟩) (h := (fun gs => .n (.a) (.n (.a) (.n (.n (.a) (.b (.s (i_DiskOK.S1)))) (.a))))) (G := fun t g => i_DiskOK.F (fun y0 => g y0) t.1.1 t.1.2.1) (by kernel_rfl) i_DiskOK.hE Tryz.func64 (by kernel_rfl) rfl (Nat.le_refl _) (fun t => HintOk.n1 (by kernel_rfl) (i_DiskOK.hok i_DiskOK.hE)) (fun t g => i_DiskOK_nat g t.1.1 t.1.2.1) (fun t => by kernel_rfl)
/-! strings.Trim -/
theorem trim_ex : ∃ f : (ByteArray → ByteArray → ByteArray) × (ByteArray → ByteArray → Bool), f.1 = (fun s c => ⟨(Lib.trimS s.data.toList c.data.toList).toArray⟩) ∧ f.2 = (fun s c => decide (s.size ≤ 9223372036854775807) && (decide (c.size < 4294967281) && c.data.toList.all (fun b => decide (b.toNat < 128)))) := ⟨(_, _), rfl, rfl⟩
/-- Chosen, so that the kernel does not unfold them. -/
noncomputable def trimS : ByteArray → ByteArray → ByteArray := (Classical.choose trim_ex).1
noncomputable def gTrim : ByteArray → ByteArray → Bool := (Classical.choose trim_ex).2
theorem trimS_eq (s c : ByteArray) : trimS s c = ⟨(Lib.trimS s.data.toList c.data.toList).toArray⟩ := congrFun (congrFun (Classical.choose_spec trim_ex).1 s) c
theorem gTrim_eq (s c : ByteArray) : gTrim s c = (decide (s.size ≤ 9223372036854775807) && (decide (c.size < 4294967281) && c.data.toList.all (fun b => decide (b.toNat < 128)))) := congrFun (congrFun (Classical.choose_spec trim_ex).2 s) c
noncomputable def strings_Trim.F {R : Type} (kk : ByteArray → Option R) (s : ByteArray) (c : ByteArray) : Option R := grd (gTrim s c) <| kk (trimS s c)
theorem strings_Trim_ex : ∃ f : ByteArray → ByteArray → Option ByteArray, f = fun s n => strings_Trim.F (fun y0 => some y0) s n := ⟨_, rfl⟩
noncomputable def strings_Trim : ByteArray → ByteArray → Option ByteArray := Classical.choose strings_Trim_ex
theorem strings_Trim_eq (s c : ByteArray) : strings_Trim s c = strings_Trim.F (fun y0 => some y0) s c := congrFun (congrFun (Classical.choose_spec strings_Trim_ex) s) c
def strings_Trim.out : (ByteArray) → CRes := fun a => ⟨encL SV.enc [.one (.str)] (a, ()), [encL SC.enc [] (), encL SC.enc [] ()]⟩
def strings_Trim.ps : List PS := [.val [none], .val [none]]
def strings_Trim.sA : List SA := [.v (.one (.str)), .v (.one (.str))]
noncomputable def strings_Trim.fi : FI := FIs strings_Trim.sA (ByteArray) (fun t => strings_Trim t.1 t.2.1) strings_Trim.out strings_Trim.ps
theorem strings_Trim.fok : FOk Tryz.prog 157 strings_Trim.fi := by
  refine fok_ext ⟨_, _, Tryz.func157, by kernel_rfl, rfl⟩ (by kernel_rfl) (fun a => [.str a]) (fun a => by kernel_rfl) (fun a => by kernel_rfl) (fun t a h w => ?_)
  obtain ⟨s, c, u⟩ := t
  have h' : grd (gTrim s c) (some (trimS s c)) = some a := (strings_Trim_eq s c).symm.trans h
  cases hg : gTrim s c with
  | false => rw [hg] at h'; cases h'
  | true =>
    rw [hg] at h'
    obtain rfl := Option.some.inj h'
    rw [gTrim_eq, Bool.and_eq_true, Bool.and_eq_true, decide_eq_true_iff, decide_eq_true_iff] at hg
    obtain ⟨h0, h1, h2⟩ := hg
    rw [trimS_eq]
    exact Any.strings_Trim_laid Tryz.lays160 (by kernel_rfl) s c w h0 h1 (ascii_of_all h2)
/-! loop.example_g00220_impl.segmentOf -/
def i_segmentOf.F {R : Type} (kk : Int → Option R) (name : ByteArray) : Option R :=
  cond ((ByteArray.size name : Int) != (3 : Int)) (kk (0 : Int)) (
    grd (gIx (0 : Int) (ByteArray.size name)) <|
    cond ((byteAt name (0 : Int)) != (115 : Int)) (kk (0 : Int)) (
      grd (gSl (1 : Int) (ByteArray.size name : Int) (ByteArray.size name)) <|
      (strings_Trim (cut name (1 : Int) (ByteArray.size name : Int)) (⟨#[48, 49, 50, 51, 52, 53, 54, 55, 56, 57]⟩ : ByteArray)).bind fun r =>
      cond (!(sEq r ByteArray.empty)) (kk (0 : Int)) (
        grd (gIx (1 : Int) (ByteArray.size name)) <|
        grd (gIx (2 : Int) (ByteArray.size name)) <|
        kk (IntKind.wrap .i64 ((IntKind.wrap .i64 ((IntKind.wrap .i64 (IntKind.wrap .u8 ((byteAt name (1 : Int)) - (48 : Int)))) * (10 : Int))) + (IntKind.wrap .i64 (IntKind.wrap .u8 ((byteAt name (2 : Int)) - (48 : Int)))))))))
theorem i_segmentOf.F_nat {R S : Type} (g : R → Option S) (kk : Int → Option R) (name : ByteArray) : i_segmentOf.F (fun y0 => (kk y0).bind g) name = (i_segmentOf.F kk name).bind g := by
  simp only [i_segmentOf.F, grd_bind, cnd_bind, bnd_bind, non_bind]
def i_segmentOf (name : ByteArray) : Option Int := i_segmentOf.F (fun y0 => some y0) name
theorem i_segmentOf_nat {S : Type} (g : Int → Option S) (name : ByteArray) : i_segmentOf.F (fun y0 => g y0) name = (i_segmentOf name).bind g := i_segmentOf.F_nat g (fun y0 => some y0) name
def i_segmentOf.out : Int → CRes := fun a => ⟨encL SV.enc [.one (.int .i64)] (a, ()), [encL SC.enc [] ()]⟩
def i_segmentOf.ps : List PS := [.val [none]]
def i_segmentOf.sA : List SA := [.v (.one (.str))]
def i_segmentOf.fi : FI := FIs i_segmentOf.sA (Int) (fun t => i_segmentOf t.1) i_segmentOf.out i_segmentOf.ps
def i_segmentOf.E : Env := ⟨tt, lkF [(157, strings_Trim.fi)], 27, 0, [], []⟩
theorem i_segmentOf.hok (hE : EOk Tryz.prog (i_segmentOf.E)) : HintOk Tryz.prog i_segmentOf.E (bodyOf Tryz.f113) (.a) := HintOk.n1 (Q := True) (by kernel_rfl) trivial
theorem i_segmentOf.hE : EOk Tryz.prog (i_segmentOf.E) := EOk.of ttOk (⟨strings_Trim.fok, trivial⟩)
theorem i_segmentOf.fok : FOk Tryz.prog 113 i_segmentOf.fi :=
  fokS (E := i_segmentOf.E) (wy := ⟨[[none]], [[]], []⟩) (h := (fun gs => .a)) (G := fun t g => i_segmentOf.F (fun y0 => g y0) t.1) (by kernel_rfl) i_segmentOf.hE Tryz.func113 (by kernel_rfl) rfl (Nat.le_refl _) (fun t => HintOk.n1 (by kernel_rfl) (i_segmentOf.hok i_segmentOf.hE)) (fun t g => i_segmentOf_nat g t.1) (fun t => by kernel_rfl)
/-! loop.example_g00220_impl.numberOf -/
def i_numberOf.l1 {R : Type} (kke0 : Int → Option R) : Nat → ByteArray → Int → Int → Int → Option R
  | 0, _, _, _, _ => none
  | n + 1, s, n_, i, i1 =>
    cond (decide (i1 < i)) (
      grd (gSh (8 : Int)) <|
      grd (gIx i1 (ByteArray.size s)) <|
      i_numberOf.l1 kke0 n s (IntKind.wrap .i64 ((iShl .i64 n_ (8 : Int)) + (IntKind.wrap .i64 (byteAt s i1)))) i (IntKind.wrap .i64 (i1 + (1 : Int)))) (kke0 n_)
theorem i_numberOf.l1_nat {R S : Type} (g : R → Option S) (kke0 : Int → Option R) : ∀ (n : Nat) (s : ByteArray) (n_ : Int) (i : Int) (i1 : Int), i_numberOf.l1 (fun y0 => (kke0 y0).bind g) n s n_ i i1 = (i_numberOf.l1 kke0 n s n_ i i1).bind g := by
  intro n
  induction n with
  | zero => intros; rfl
  | succ n ih => intros; simp only [i_numberOf.l1, grd_bind, cnd_bind, bnd_bind, non_bind, ih]
def i_numberOf.F {R : Type} (kk : Int → Option R) (s : ByteArray) : Option R :=
  i_numberOf.l1 (fun n_ => kk n_) fuel s (0 : Int) (ByteArray.size s : Int) (0 : Int)
theorem i_numberOf.F_nat {R S : Type} (g : R → Option S) (kk : Int → Option R) (s : ByteArray) : i_numberOf.F (fun y0 => (kk y0).bind g) s = (i_numberOf.F kk s).bind g := by
  simp only [i_numberOf.F, grd_bind, cnd_bind, bnd_bind, non_bind, ← i_numberOf.l1_nat]
def i_numberOf (s : ByteArray) : Option Int := i_numberOf.F (fun y0 => some y0) s
theorem i_numberOf_nat {S : Type} (g : Int → Option S) (s : ByteArray) : i_numberOf.F (fun y0 => g y0) s = (i_numberOf s).bind g := i_numberOf.F_nat g (fun y0 => some y0) s
def i_numberOf.out : Int → CRes := fun a => ⟨encL SV.enc [.one (.int .i64)] (a, ()), [encL SC.enc [] ()]⟩
def i_numberOf.ps : List PS := [.val [none]]
def i_numberOf.sA : List SA := [.v (.one (.str))]
def i_numberOf.fi : FI := FIs i_numberOf.sA (Int) (fun t => i_numberOf t.1) i_numberOf.out i_numberOf.ps
def i_numberOf.E : Env := ⟨tt, lkF [], 19, 0, [], []⟩
def i_numberOf.sh1 : SK := ⟨[.v (.one (.str)), .v (.one (.int .i64)), .v (.one (.int .i64)), .v (.one (.int .i64))], []⟩
def i_numberOf.sh1e0 : SK := ⟨[.v (.one (.int .i64))], []⟩
def i_numberOf.ko1 : Ex → List CastAt × List Nat
  | .nrm => ([], [])
  | .ret => ([], [])
  | .ext i => cond (Nat.beq i 0) ([], [3]) ([], [])
def i_numberOf.G1 (n : Nat) (R : Type) (t : i_numberOf.sh1.T) (K : Ex → Kp → Option R) : Option R := i_numberOf.l1 (fun y0 => K (.ext 0) (SK.enc i_numberOf.sh1e0 ((y0, ()), ()))) n t.1.1 t.1.2.1 t.1.2.2.1 t.1.2.2.2.1
def i_numberOf.S1 : Sum := ⟨([], [0, 3, 6, 7]), sumF i_numberOf.sh1 (i_numberOf.G1 fuel), i_numberOf.ko1⟩
theorem i_numberOf.ok1 (hE : EOk Tryz.prog (i_numberOf.E)) : SumOk Tryz.prog i_numberOf.E (cB (cR (cL (cR (cR (bodyOf Tryz.f140)))))) (i_numberOf.S1) := by
  have hh : HintOk Tryz.prog i_numberOf.E (cB (cB (cR (cL (cR (cR (bodyOf Tryz.f140))))))) (.a) := HintOk.n1 (Q := True) (by kernel_rfl) trivial
  have h := loopS (kin := ([], [0, 3, 6, 7])) (kout := i_numberOf.ko1) (sh := i_numberOf.sh1) (F := i_numberOf.G1) (ops_ok (hE.gv _)) (by kernel_rfl) hh (fun _ _ _ => rfl) (fun n R t K => by kernel_rfl) fuel
  exact HintOk.n1 (c := (cB (cR (cL (cR (cR (bodyOf Tryz.f140))))))) (h := .s (i_numberOf.S1)) (P := Tryz.prog) (E := i_numberOf.E) (by kernel_rfl) h
theorem i_numberOf.hok (hE : EOk Tryz.prog (i_numberOf.E)) : HintOk Tryz.prog i_numberOf.E (bodyOf Tryz.f140) (.n (.a) (.n (.a) (.n (.n (.a) (.b (.s (i_numberOf.S1)))) (.a)))) := HintOk.n1 (Q := (True) ∧ ((True) ∧ (((True) ∧ (SumOk Tryz.prog i_numberOf.E (cB (cR (cL (cR (cR (bodyOf Tryz.f140)))))) (i_numberOf.S1))) ∧ (True)))) (by kernel_rfl) ⟨trivial, ⟨trivial, ⟨⟨trivial, (i_numberOf.ok1 hE)⟩, trivial⟩⟩⟩
theorem i_numberOf.hE : EOk Tryz.prog (i_numberOf.E) := EOk.of ttOk (trivial)
theorem i_numberOf.fok : FOk Tryz.prog 140 i_numberOf.fi :=
  fokS (E := i_numberOf.E) (wy := ⟨[[none]], [[]], []⟩) (h := (fun gs => .n (.a) (.n (.a) (.n (.n (.a) (.b (.s (i_numberOf.S1)))) (.a))))) (G := fun t g => i_numberOf.F (fun y0 => g y0) t.1) (by kernel_rfl) i_numberOf.hE Tryz.func140 (by kernel_rfl) rfl (Nat.le_refl _) (fun t => HintOk.n1 (by kernel_rfl) (i_numberOf.hok i_numberOf.hE)) (fun t g => i_numberOf_nat g t.1) (fun t => by kernel_rfl)
/-! loop.example_g00220_impl.number -/
def i_number.l1 {R : Type} (kke0 : List Int → Option R) : Nat → Int → Int → List Int → Option R
  | 0, _, _, _ => none
  | n + 1, n_, i, out =>
    cond (decide (i ≥ (0 : Int))) (
      grd (gIx i (List.length out)) <|
      grd (gSh (8 : Int)) <|
      i_number.l1 kke0 n (iShr .i64 n_ (8 : Int)) (IntKind.wrap .i64 (i - (1 : Int))) (setE (.int .u8 : Kd) out (Int.toNat i) (IntKind.wrap .u8 n_))) (kke0 out)
theorem i_number.l1_nat {R S : Type} (g : R → Option S) (kke0 : List Int → Option R) : ∀ (n : Nat) (n_ : Int) (i : Int) (out : List Int), i_number.l1 (fun y0 => (kke0 y0).bind g) n n_ i out = (i_number.l1 kke0 n n_ i out).bind g := by
  intro n
  induction n with
  | zero => intros; rfl
  | succ n ih => intros; simp only [i_number.l1, grd_bind, cnd_bind, bnd_bind, non_bind, ih]
def i_number.F {R : Type} (kk : ByteArray → Option R) (n_ : Int) (many : Int) : Option R :=
  grd (gMk many many 1) <|
  i_number.l1 (fun out => kk (strL out)) fuel n_ (IntKind.wrap .i64 (many - (1 : Int))) (List.replicate (Int.toNat many) (0 : Int))
theorem i_number.F_nat {R S : Type} (g : R → Option S) (kk : ByteArray → Option R) (n_ : Int) (many : Int) : i_number.F (fun y0 => (kk y0).bind g) n_ many = (i_number.F kk n_ many).bind g := by
  simp only [i_number.F, grd_bind, cnd_bind, bnd_bind, non_bind, ← i_number.l1_nat]
def i_number (n_ : Int) (many : Int) : Option ByteArray := i_number.F (fun y0 => some y0) n_ many
theorem i_number_nat {S : Type} (g : ByteArray → Option S) (n_ : Int) (many : Int) : i_number.F (fun y0 => g y0) n_ many = (i_number n_ many).bind g := i_number.F_nat g (fun y0 => some y0) n_ many
def i_number.out : ByteArray → CRes := fun a => ⟨encL SV.enc [.one (.str)] (a, ()), [encL SC.enc [] (), encL SC.enc [] ()]⟩
def i_number.ps : List PS := [.val [none], .val [none]]
def i_number.sA : List SA := [.v (.one (.int .i64)), .v (.one (.int .i64))]
def i_number.fi : FI := FIs i_number.sA (ByteArray) (fun t => i_number t.1 t.2.1) i_number.out i_number.ps
def i_number.E : Env := ⟨tt, lkF [], 24, 0, [], []⟩
def i_number.sh1 : SK := ⟨[.v (.one (.int .i64)), .v (.one (.slo 0)), .v (.one (.int .i64))], [.arr (.int .u8) [] true]⟩
def i_number.sh1e0 : SK := ⟨[.v (.one (.slo 0))], [.arr (.int .u8) [] true]⟩
def i_number.ko1 : Ex → List CastAt × List Nat
  | .nrm => ([], [])
  | .ret => ([], [])
  | .ext i => cond (Nat.beq i 0) ([], [5]) ([], [])
def i_number.G1 (n : Nat) (R : Type) (t : i_number.sh1.T) (K : Ex → Kp → Option R) : Option R := i_number.l1 (fun y0 => K (.ext 0) (SK.enc i_number.sh1e0 (((), ()), (y0, ())))) n t.1.1 t.1.2.2.1 t.2.1
def i_number.S1 : Sum := ⟨([], [0, 5, 6]), sumF i_number.sh1 (i_number.G1 fuel), i_number.ko1⟩
theorem i_number.ok1 (hE : EOk Tryz.prog (i_number.E)) : SumOk Tryz.prog i_number.E (cB (cR (cL (cR (cR (bodyOf Tryz.f102)))))) (i_number.S1) := by
  have hh : HintOk Tryz.prog i_number.E (cB (cB (cR (cL (cR (cR (bodyOf Tryz.f102))))))) (.a) := HintOk.n1 (Q := True) (by kernel_rfl) trivial
  have h := loopS (kin := ([], [0, 5, 6])) (kout := i_number.ko1) (sh := i_number.sh1) (F := i_number.G1) (ops_ok (hE.gv _)) (by kernel_rfl) hh (fun _ _ _ => rfl) (fun n R t K => by kernel_rfl) fuel
  exact HintOk.n1 (c := (cB (cR (cL (cR (cR (bodyOf Tryz.f102))))))) (h := .s (i_number.S1)) (P := Tryz.prog) (E := i_number.E) (by kernel_rfl) h
theorem i_number.hok (hE : EOk Tryz.prog (i_number.E)) : HintOk Tryz.prog i_number.E (bodyOf Tryz.f102) (.n (.a) (.n (.a) (.n (.n (.a) (.b (.s (i_number.S1)))) (.a)))) := HintOk.n1 (Q := (True) ∧ ((True) ∧ (((True) ∧ (SumOk Tryz.prog i_number.E (cB (cR (cL (cR (cR (bodyOf Tryz.f102)))))) (i_number.S1))) ∧ (True)))) (by kernel_rfl) ⟨trivial, ⟨trivial, ⟨⟨trivial, (i_number.ok1 hE)⟩, trivial⟩⟩⟩
theorem i_number.hE : EOk Tryz.prog (i_number.E) := EOk.of ttOk (trivial)
theorem i_number.fok : FOk Tryz.prog 102 i_number.fi :=
  fokS (E := i_number.E) (wy := ⟨[[none]], [[], []], []⟩) (h := (fun gs => .n (.a) (.n (.a) (.n (.n (.a) (.b (.s (i_number.S1)))) (.a))))) (G := fun t g => i_number.F (fun y0 => g y0) t.1 t.2.1) (by kernel_rfl) i_number.hE Tryz.func102 (by kernel_rfl) rfl (Nat.le_refl _) (fun t => HintOk.n1 (by kernel_rfl) (i_number.hok i_number.hE)) (fun t g => i_number_nat g t.1 t.2.1) (fun t => by kernel_rfl)
/-! loop.example_g00220_impl.check32 -/
def i_check32.l1 {R : Type} (kke2 : ByteArray → Int → Int → Int → Option R) : Nat → ByteArray → Int → Int → Int → Int → Option R
  | 0, _, _, _, _, _ => none
  | n + 1, s, sum, i, i1, i2 =>
    cond (decide (i2 < (8 : Int))) (
      grd (gSh (1 : Int)) <|
      cond ((iAnd .u32 sum (1 : Int)) == (1 : Int)) (
        i_check32.l1 kke2 n s (iXor .u32 (iShr .u32 sum (1 : Int)) (3988292384 : Int)) i i1 (IntKind.wrap .i64 (i2 + (1 : Int)))) (i_check32.l1 kke2 n s (iShr .u32 sum (1 : Int)) i i1 (IntKind.wrap .i64 (i2 + (1 : Int))))) (kke2 s sum i i1)
theorem i_check32.l1_nat {R S : Type} (g : R → Option S) (kke2 : ByteArray → Int → Int → Int → Option R) : ∀ (n : Nat) (s : ByteArray) (sum : Int) (i : Int) (i1 : Int) (i2 : Int), i_check32.l1 (fun y0 y1 y2 y3 => (kke2 y0 y1 y2 y3).bind g) n s sum i i1 i2 = (i_check32.l1 kke2 n s sum i i1 i2).bind g := by
  intro n
  induction n with
  | zero => intros; rfl
  | succ n ih => intros; simp only [i_check32.l1, grd_bind, cnd_bind, bnd_bind, non_bind, ih]
def i_check32.l2 {R : Type} (kke0 : Int → Option R) : Nat → ByteArray → Int → Int → Int → Option R
  | 0, _, _, _, _ => none
  | n + 1, s, sum, i, i1 =>
    cond (decide (i1 < i)) (
      grd (gIx i1 (ByteArray.size s)) <|
      i_check32.l1 (fun s1 sum1 i2 i3 => i_check32.l2 kke0 n s1 sum1 i2 (IntKind.wrap .i64 (i3 + (1 : Int)))) fuel s (iXor .u32 sum (IntKind.wrap .u32 (byteAt s i1))) i i1 (0 : Int)) (kke0 sum)
theorem i_check32.l2_nat {R S : Type} (g : R → Option S) (kke0 : Int → Option R) : ∀ (n : Nat) (s : ByteArray) (sum : Int) (i : Int) (i1 : Int), i_check32.l2 (fun y0 => (kke0 y0).bind g) n s sum i i1 = (i_check32.l2 kke0 n s sum i i1).bind g := by
  intro n
  induction n with
  | zero => intros; rfl
  | succ n ih => intros; simp only [i_check32.l2, grd_bind, cnd_bind, bnd_bind, non_bind, ← i_check32.l1_nat, ih]
def i_check32.F {R : Type} (kk : Int → Option R) (s : ByteArray) : Option R :=
  i_check32.l2 (fun sum => kk (IntKind.wrap .i64 (iXor .u32 (IntKind.max .u32) sum))) fuel s (4294967295 : Int) (ByteArray.size s : Int) (0 : Int)
theorem i_check32.F_nat {R S : Type} (g : R → Option S) (kk : Int → Option R) (s : ByteArray) : i_check32.F (fun y0 => (kk y0).bind g) s = (i_check32.F kk s).bind g := by
  simp only [i_check32.F, grd_bind, cnd_bind, bnd_bind, non_bind, ← i_check32.l2_nat]
def i_check32 (s : ByteArray) : Option Int := i_check32.F (fun y0 => some y0) s
theorem i_check32_nat {S : Type} (g : Int → Option S) (s : ByteArray) : i_check32.F (fun y0 => g y0) s = (i_check32 s).bind g := i_check32.F_nat g (fun y0 => some y0) s
def i_check32.out : Int → CRes := fun a => ⟨encL SV.enc [.one (.int .i64)] (a, ()), [encL SC.enc [] ()]⟩
def i_check32.ps : List PS := [.val [none]]
def i_check32.sA : List SA := [.v (.one (.str))]
def i_check32.fi : FI := FIs i_check32.sA (Int) (fun t => i_check32 t.1) i_check32.out i_check32.ps
def i_check32.E : Env := ⟨tt, lkF [], 32, 0, [], []⟩
def i_check32.sh1 : SK := ⟨[.v (.one (.str)), .v (.one (.int .u32)), .v (.one (.int .i64)), .v (.one (.int .i64)), .v (.one (.int .i64))], []⟩
def i_check32.sh1e2 : SK := ⟨[.v (.one (.str)), .v (.one (.int .u32)), .v (.one (.int .i64)), .v (.one (.int .i64))], []⟩
def i_check32.ko1 : Ex → List CastAt × List Nat
  | .nrm => ([], [])
  | .ret => ([], [])
  | .ext i => cond (Nat.beq i 2) ([], [0, 3, 7, 8]) ([], [])
def i_check32.G1 (n : Nat) (R : Type) (t : i_check32.sh1.T) (K : Ex → Kp → Option R) : Option R := i_check32.l1 (fun y0 y1 y2 y3 => K (.ext 2) (SK.enc i_check32.sh1e2 ((y0, y1, y2, y3, ()), ()))) n t.1.1 t.1.2.1 t.1.2.2.1 t.1.2.2.2.1 t.1.2.2.2.2.1
def i_check32.S1 : Sum := ⟨([], [0, 3, 7, 8, 17]), sumF i_check32.sh1 (i_check32.G1 fuel), i_check32.ko1⟩
theorem i_check32.ok1 (hE : EOk Tryz.prog (i_check32.E)) : SumOk Tryz.prog i_check32.E (cB (cR (cR (cR (cB (cL (cR (cR (cB (cB (cR (cL (cR (cR (bodyOf Tryz.f212))))))))))))))) (i_check32.S1) := by
  have hh : HintOk Tryz.prog i_check32.E (cB (cB (cR (cR (cR (cB (cL (cR (cR (cB (cB (cR (cL (cR (cR (bodyOf Tryz.f212)))))))))))))))) (.a) := HintOk.n1 (Q := True) (by kernel_rfl) trivial
  have h := loopS (kin := ([], [0, 3, 7, 8, 17])) (kout := i_check32.ko1) (sh := i_check32.sh1) (F := i_check32.G1) (ops_ok (hE.gv _)) (by kernel_rfl) hh (fun _ _ _ => rfl) (fun n R t K => by kernel_rfl) fuel
  exact HintOk.n1 (c := (cB (cR (cR (cR (cB (cL (cR (cR (cB (cB (cR (cL (cR (cR (bodyOf Tryz.f212)))))))))))))))) (h := .s (i_check32.S1)) (P := Tryz.prog) (E := i_check32.E) (by kernel_rfl) h
def i_check32.sh2 : SK := ⟨[.v (.one (.str)), .v (.one (.int .u32)), .v (.one (.int .i64)), .v (.one (.int .i64))], []⟩
def i_check32.sh2e0 : SK := ⟨[.v (.one (.int .u32))], []⟩
def i_check32.ko2 : Ex → List CastAt × List Nat
  | .nrm => ([], [])
  | .ret => ([], [])
  | .ext i => cond (Nat.beq i 0) ([], [3]) ([], [])
def i_check32.G2 (n : Nat) (R : Type) (t : i_check32.sh2.T) (K : Ex → Kp → Option R) : Option R := i_check32.l2 (fun y0 => K (.ext 0) (SK.enc i_check32.sh2e0 ((y0, ()), ()))) n t.1.1 t.1.2.1 t.1.2.2.1 t.1.2.2.2.1
def i_check32.S2 : Sum := ⟨([], [0, 3, 7, 8]), sumF i_check32.sh2 (i_check32.G2 fuel), i_check32.ko2⟩
theorem i_check32.ok2 (hE : EOk Tryz.prog (i_check32.E)) : SumOk Tryz.prog i_check32.E (cB (cR (cL (cR (cR (bodyOf Tryz.f212)))))) (i_check32.S2) := by
  have hh : HintOk Tryz.prog i_check32.E (cB (cB (cR (cL (cR (cR (bodyOf Tryz.f212))))))) (.n (.a) (.n (.a) (.n (.b (.n (.a) (.n (.a) (.n (.a) (.b (.s (i_check32.S1))))))) (.a)))) := HintOk.n1 (Q := (True) ∧ ((True) ∧ (((True) ∧ ((True) ∧ ((True) ∧ (SumOk Tryz.prog i_check32.E (cB (cR (cR (cR (cB (cL (cR (cR (cB (cB (cR (cL (cR (cR (bodyOf Tryz.f212))))))))))))))) (i_check32.S1))))) ∧ (True)))) (by kernel_rfl) ⟨trivial, ⟨trivial, ⟨⟨trivial, ⟨trivial, ⟨trivial, (i_check32.ok1 hE)⟩⟩⟩, trivial⟩⟩⟩
  have h := loopS (kin := ([], [0, 3, 7, 8])) (kout := i_check32.ko2) (sh := i_check32.sh2) (F := i_check32.G2) (ops_ok (hE.gv _)) (by kernel_rfl) hh (fun _ _ _ => rfl) (fun n R t K => by kernel_rfl) fuel
  exact HintOk.n1 (c := (cB (cR (cL (cR (cR (bodyOf Tryz.f212))))))) (h := .s (i_check32.S2)) (P := Tryz.prog) (E := i_check32.E) (by kernel_rfl) h
theorem i_check32.hok (hE : EOk Tryz.prog (i_check32.E)) : HintOk Tryz.prog i_check32.E (bodyOf Tryz.f212) (.n (.a) (.n (.a) (.n (.n (.a) (.b (.s (i_check32.S2)))) (.a)))) := HintOk.n1 (Q := (True) ∧ ((True) ∧ (((True) ∧ (SumOk Tryz.prog i_check32.E (cB (cR (cL (cR (cR (bodyOf Tryz.f212)))))) (i_check32.S2))) ∧ (True)))) (by kernel_rfl) ⟨trivial, ⟨trivial, ⟨⟨trivial, (i_check32.ok2 hE)⟩, trivial⟩⟩⟩
theorem i_check32.hE : EOk Tryz.prog (i_check32.E) := EOk.of ttOk (trivial)
theorem i_check32.fok : FOk Tryz.prog 212 i_check32.fi :=
  fokS (E := i_check32.E) (wy := ⟨[[none]], [[]], []⟩) (h := (fun gs => .n (.a) (.n (.a) (.n (.n (.a) (.b (.s (i_check32.S2)))) (.a))))) (G := fun t g => i_check32.F (fun y0 => g y0) t.1) (by kernel_rfl) i_check32.hE Tryz.func212 (by kernel_rfl) rfl (Nat.le_refl _) (fun t => HintOk.n1 (by kernel_rfl) (i_check32.hok i_check32.hE)) (fun t g => i_check32_nat g t.1) (fun t => by kernel_rfl)
/-! loop.example_g00220_impl.frame -/
def i_frame.F {R : Type} (kk : ByteArray → Option R) (data : ByteArray) : Option R :=
  (i_number (ByteArray.size data : Int) (2 : Int)).bind fun r =>
  grd (gCat r data) <|
  (i_check32 (r ++ data)).bind fun r1 =>
  (i_number r1 (4 : Int)).bind fun r2 =>
  grd (gCat r r2) <|
  grd (gCat (r ++ r2) data) <|
  kk ((r ++ r2) ++ data)
theorem i_frame.F_nat {R S : Type} (g : R → Option S) (kk : ByteArray → Option R) (data : ByteArray) : i_frame.F (fun y0 => (kk y0).bind g) data = (i_frame.F kk data).bind g := by
  simp only [i_frame.F, grd_bind, cnd_bind, bnd_bind, non_bind]
def i_frame (data : ByteArray) : Option ByteArray := i_frame.F (fun y0 => some y0) data
theorem i_frame_nat {S : Type} (g : ByteArray → Option S) (data : ByteArray) : i_frame.F (fun y0 => g y0) data = (i_frame data).bind g := i_frame.F_nat g (fun y0 => some y0) data
def i_frame.out : ByteArray → CRes := fun a => ⟨encL SV.enc [.one (.str)] (a, ()), [encL SC.enc [] ()]⟩
def i_frame.ps : List PS := [.val [none]]
def i_frame.sA : List SA := [.v (.one (.str))]
def i_frame.fi : FI := FIs i_frame.sA (ByteArray) (fun t => i_frame t.1) i_frame.out i_frame.ps
def i_frame.E : Env := ⟨tt, lkF [(102, i_number.fi), (212, i_check32.fi)], 16, 0, [], []⟩
theorem i_frame.hok (hE : EOk Tryz.prog (i_frame.E)) : HintOk Tryz.prog i_frame.E (bodyOf Tryz.f188) (.a) := HintOk.n1 (Q := True) (by kernel_rfl) trivial
theorem i_frame.hE : EOk Tryz.prog (i_frame.E) := EOk.of ttOk (⟨i_number.fok, ⟨i_check32.fok, trivial⟩⟩)
theorem i_frame.fok : FOk Tryz.prog 188 i_frame.fi :=
  fokS (E := i_frame.E) (wy := ⟨[[none]], [[]], []⟩) (h := (fun gs => .a)) (G := fun t g => i_frame.F (fun y0 => g y0) t.1) (by kernel_rfl) i_frame.hE Tryz.func188 (by kernel_rfl) rfl (Nat.le_refl _) (fun t => HintOk.n1 (by kernel_rfl) (i_frame.hok i_frame.hE)) (fun t g => i_frame_nat g t.1) (fun t => by kernel_rfl)
/-! loop.example_g00220_impl.frameAt -/
def i_frameAt.F {R : Type} (kk : ByteArray → Int → Option R) (s : ByteArray) : Option R :=
  cond (decide ((ByteArray.size s : Int) < (6 : Int))) (kk ByteArray.empty (16 : Int)) (
    grd (gSl (0 : Int) (2 : Int) (ByteArray.size s)) <|
    (i_numberOf (cut s (0 : Int) (2 : Int))).bind fun r =>
    (i_within r (1 : Int) (200 : Int)).bind fun r1 =>
    cond (!r1) (kk ByteArray.empty (8 : Int)) (
      cond (decide ((ByteArray.size s : Int) < (IntKind.wrap .i64 ((6 : Int) + r)))) (kk ByteArray.empty (16 : Int)) (
        grd (gSl (6 : Int) (IntKind.wrap .i64 ((6 : Int) + r)) (ByteArray.size s)) <|
        (i_frame (cut s (6 : Int) (IntKind.wrap .i64 ((6 : Int) + r)))).bind fun r2 =>
        grd (gSl (0 : Int) (IntKind.wrap .i64 ((6 : Int) + r)) (ByteArray.size s)) <|
        cond (!(sEq r2 (cut s (0 : Int) (IntKind.wrap .i64 ((6 : Int) + r))))) (kk ByteArray.empty (8 : Int)) (
          grd (gSl (6 : Int) (IntKind.wrap .i64 ((6 : Int) + r)) (ByteArray.size s)) <|
          kk (cut s (6 : Int) (IntKind.wrap .i64 ((6 : Int) + r))) (0 : Int)))))
theorem i_frameAt.F_nat {R S : Type} (g : R → Option S) (kk : ByteArray → Int → Option R) (s : ByteArray) : i_frameAt.F (fun y0 y1 => (kk y0 y1).bind g) s = (i_frameAt.F kk s).bind g := by
  simp only [i_frameAt.F, grd_bind, cnd_bind, bnd_bind, non_bind]
def i_frameAt (s : ByteArray) : Option (ByteArray × Int) := i_frameAt.F (fun y0 y1 => some (y0, y1)) s
theorem i_frameAt_nat {S : Type} (g : (ByteArray × Int) → Option S) (s : ByteArray) : i_frameAt.F (fun y0 y1 => g (y0, y1)) s = (i_frameAt s).bind g := i_frameAt.F_nat g (fun y0 y1 => some (y0, y1)) s
def i_frameAt.out : (ByteArray × Int) → CRes := fun a => ⟨encL SV.enc [.one (.str), .one (.int .i64)] (a.1, a.2, ()), [encL SC.enc [] ()]⟩
def i_frameAt.ps : List PS := [.val [none]]
def i_frameAt.sA : List SA := [.v (.one (.str))]
def i_frameAt.fi : FI := FIs i_frameAt.sA (ByteArray × Int) (fun t => i_frameAt t.1) i_frameAt.out i_frameAt.ps
def i_frameAt.E : Env := ⟨tt, lkF [(61, i_within.fi), (140, i_numberOf.fi), (188, i_frame.fi)], 36, 0, [], []⟩
theorem i_frameAt.hok (hE : EOk Tryz.prog (i_frameAt.E)) : HintOk Tryz.prog i_frameAt.E (bodyOf Tryz.f208) (.a) := HintOk.n1 (Q := True) (by kernel_rfl) trivial
theorem i_frameAt.hE : EOk Tryz.prog (i_frameAt.E) := EOk.of ttOk (⟨i_within.fok, ⟨i_numberOf.fok, ⟨i_frame.fok, trivial⟩⟩⟩)
theorem i_frameAt.fok : FOk Tryz.prog 208 i_frameAt.fi :=
  fokS (E := i_frameAt.E) (wy := ⟨[[none], [none]], [[]], []⟩) (h := (fun gs => .a)) (G := fun t g => i_frameAt.F (fun y0 y1 => g (y0, y1)) t.1) (by kernel_rfl) i_frameAt.hE Tryz.func208 (by kernel_rfl) rfl (Nat.le_refl _) (fun t => HintOk.n1 (by kernel_rfl) (i_frameAt.hok i_frameAt.hE)) (fun t g => i_frameAt_nat g t.1) (fun t => by kernel_rfl)
/-! loop.example_g00220_impl.readFrames -/
def i_readFrames.l1 {R : Type} (kke0 : Int → List ByteArray → Option R) (kkr : Int → Int → List ByteArray → Option R) : Nat → ByteArray → Int → List ByteArray → Option R
  | 0, _, _, _ => none
  | n + 1, s, used, out =>
    cond (decide (used < (ByteArray.size s : Int))) (
      grd (gSl used (ByteArray.size s : Int) (ByteArray.size s)) <|
      (i_frameAt (cut s used (ByteArray.size s : Int))).bind fun r =>
      cond (r.2 != (0 : Int)) (kkr used r.2 out) (
        grd (gRm (((List.length out) + (List.length [r.1])) * 16)) <|
        i_readFrames.l1 kke0 kkr n s (IntKind.wrap .i64 ((IntKind.wrap .i64 (used + (6 : Int))) + (ByteArray.size r.1 : Int))) (out ++ [r.1]))) (kke0 used out)
theorem i_readFrames.l1_nat {R S : Type} (g : R → Option S) (kke0 : Int → List ByteArray → Option R) (kkr : Int → Int → List ByteArray → Option R) : ∀ (n : Nat) (s : ByteArray) (used : Int) (out : List ByteArray), i_readFrames.l1 (fun y0 y1 => (kke0 y0 y1).bind g) (fun y0 y1 y2 => (kkr y0 y1 y2).bind g) n s used out = (i_readFrames.l1 kke0 kkr n s used out).bind g := by
  intro n
  induction n with
  | zero => intros; rfl
  | succ n ih => intros; simp only [i_readFrames.l1, grd_bind, cnd_bind, bnd_bind, non_bind, ih]
def i_readFrames.F {R : Type} (kk : List ByteArray → Int → Int → Option R) (s : ByteArray) : Option R :=
  i_readFrames.l1 (fun used out => kk out used (0 : Int)) (fun i i1 l => kk l i i1) fuel s (0 : Int) ([] : List ByteArray)
theorem i_readFrames.F_nat {R S : Type} (g : R → Option S) (kk : List ByteArray → Int → Int → Option R) (s : ByteArray) : i_readFrames.F (fun y0 y1 y2 => (kk y0 y1 y2).bind g) s = (i_readFrames.F kk s).bind g := by
  simp only [i_readFrames.F, grd_bind, cnd_bind, bnd_bind, non_bind, ← i_readFrames.l1_nat]
def i_readFrames (s : ByteArray) : Option (List ByteArray × Int × Int) := i_readFrames.F (fun y0 y1 y2 => some (y0, y1, y2)) s
theorem i_readFrames_nat {S : Type} (g : (List ByteArray × Int × Int) → Option S) (s : ByteArray) : i_readFrames.F (fun y0 y1 y2 => g (y0, y1, y2)) s = (i_readFrames s).bind g := i_readFrames.F_nat g (fun y0 y1 y2 => some (y0, y1, y2)) s
def i_readFrames.out : (List ByteArray × Int × Int) → CRes := fun a => ⟨encL SV.enc [.one (.own [] .str true), .one (.int .i64), .one (.int .i64)] (a.1, a.2.1, a.2.2, ()), [encL SC.enc [] ()]⟩
def i_readFrames.ps : List PS := [.val [none]]
def i_readFrames.sA : List SA := [.v (.one (.str))]
def i_readFrames.fi : FI := FIs i_readFrames.sA (List ByteArray × Int × Int) (fun t => i_readFrames t.1) i_readFrames.out i_readFrames.ps
def i_readFrames.E : Env := ⟨tt, lkF [(208, i_frameAt.fi)], 37, 0, [], []⟩
def i_readFrames.sh1 : SK := ⟨[.v (.one (.str)), .v (.one (.slo 0)), .v (.one (.int .i64))], [.arr .str [] true]⟩
def i_readFrames.sh1e0 : SK := ⟨[.v (.one (.slo 0)), .v (.one (.int .i64))], [.arr .str [] true]⟩
def i_readFrames.sh1r : SK := ⟨[.v (.one (.slo 0)), .v (.one (.int .i64)), .v (.one (.int .i64))], [.arr .str [] true]⟩
def i_readFrames.ko1 : Ex → List CastAt × List Nat
  | .nrm => ([], [])
  | .ret => ([], [2, 3, 4])
  | .ext i => cond (Nat.beq i 0) ([], [5, 6]) ([], [])
def i_readFrames.G1 (n : Nat) (R : Type) (t : i_readFrames.sh1.T) (K : Ex → Kp → Option R) : Option R := i_readFrames.l1 (fun y0 y1 => K (.ext 0) (SK.enc i_readFrames.sh1e0 (((), y0, ()), (y1, ())))) (fun y0 y1 y2 => K .ret (SK.enc i_readFrames.sh1r (((), y0, y1, ()), (y2, ())))) n t.1.1 t.1.2.2.1 t.2.1
def i_readFrames.S1 : Sum := ⟨([], [0, 5, 6]), sumF i_readFrames.sh1 (i_readFrames.G1 fuel), i_readFrames.ko1⟩
theorem i_readFrames.ok1 (hE : EOk Tryz.prog (i_readFrames.E)) : SumOk Tryz.prog i_readFrames.E (cB (cL (cR (cR (bodyOf Tryz.f180))))) (i_readFrames.S1) := by
  have hh : HintOk Tryz.prog i_readFrames.E (cB (cB (cL (cR (cR (bodyOf Tryz.f180)))))) (.a) := HintOk.n1 (Q := True) (by kernel_rfl) trivial
  have h := loopS (kin := ([], [0, 5, 6])) (kout := i_readFrames.ko1) (sh := i_readFrames.sh1) (F := i_readFrames.G1) (ops_ok (hE.gv _)) (by kernel_rfl) hh (fun _ _ _ => rfl) (fun n R t K => by kernel_rfl) fuel
  exact HintOk.n1 (c := (cB (cL (cR (cR (bodyOf Tryz.f180)))))) (h := .s (i_readFrames.S1)) (P := Tryz.prog) (E := i_readFrames.E) (by kernel_rfl) h
theorem i_readFrames.hok (hE : EOk Tryz.prog (i_readFrames.E)) : HintOk Tryz.prog i_readFrames.E (bodyOf Tryz.f180) (.n (.a) (.n (.a) (.n (.b (.s (i_readFrames.S1))) (.a)))) := HintOk.n1 (Q := (True) ∧ ((True) ∧ ((SumOk Tryz.prog i_readFrames.E (cB (cL (cR (cR (bodyOf Tryz.f180))))) (i_readFrames.S1)) ∧ (True)))) (by kernel_rfl) ⟨trivial, ⟨trivial, ⟨(i_readFrames.ok1 hE), trivial⟩⟩⟩
theorem i_readFrames.hE : EOk Tryz.prog (i_readFrames.E) := EOk.of ttOk (⟨i_frameAt.fok, trivial⟩)
theorem i_readFrames.fok : FOk Tryz.prog 180 i_readFrames.fi :=
  fokS (E := i_readFrames.E) (wy := ⟨[[some (.str, true)], [none], [none]], [[]], []⟩) (h := (fun gs => .n (.a) (.n (.a) (.n (.b (.s (i_readFrames.S1))) (.a))))) (G := fun t g => i_readFrames.F (fun y0 y1 y2 => g (y0, y1, y2)) t.1) (by kernel_rfl) i_readFrames.hE Tryz.func180 (by kernel_rfl) rfl (Nat.le_refl _) (fun t => HintOk.n1 (by kernel_rfl) (i_readFrames.hok i_readFrames.hE)) (fun t g => i_readFrames_nat g t.1) (fun t => by kernel_rfl)
/-! _loop.example_g00220_impl.Wal_.next -/
def i_Wal_next.F {R : Type} (kk : Int → Option R) (w_First : Int) (w_Records : List ByteArray) (w_Names : List ByteArray) (w_Torn : Int) : Option R :=
  kk (IntKind.wrap .i64 (w_First + (List.length w_Records : Int)))
theorem i_Wal_next.F_nat {R S : Type} (g : R → Option S) (kk : Int → Option R) (w_First : Int) (w_Records : List ByteArray) (w_Names : List ByteArray) (w_Torn : Int) : i_Wal_next.F (fun y0 => (kk y0).bind g) w_First w_Records w_Names w_Torn = (i_Wal_next.F kk w_First w_Records w_Names w_Torn).bind g := by
  simp only [i_Wal_next.F, grd_bind, cnd_bind, bnd_bind, non_bind]
def i_Wal_next (w_First : Int) (w_Records : List ByteArray) (w_Names : List ByteArray) (w_Torn : Int) : Option Int := i_Wal_next.F (fun y0 => some y0) w_First w_Records w_Names w_Torn
theorem i_Wal_next_nat {S : Type} (g : Int → Option S) (w_First : Int) (w_Records : List ByteArray) (w_Names : List ByteArray) (w_Torn : Int) : i_Wal_next.F (fun y0 => g y0) w_First w_Records w_Names w_Torn = (i_Wal_next w_First w_Records w_Names w_Torn).bind g := i_Wal_next.F_nat g (fun y0 => some y0) w_First w_Records w_Names w_Torn
def i_Wal_next.out : Int → CRes := fun a => ⟨encL SV.enc [.one (.int .i64)] (a, ()), [encL SC.enc [] ()]⟩
def i_Wal_next.ps : List PS := [.val [none, some (.str, false), some (.str, false), none]]
def i_Wal_next.sA : List SA := [.v (.agg [.int .i64, .slv [] .str, .slv [] .str, .int .i64])]
def i_Wal_next.fi : FI := FIs i_Wal_next.sA (Int) (fun t => i_Wal_next t.1.1 t.1.2.1 t.1.2.2.1 t.1.2.2.2.1) i_Wal_next.out i_Wal_next.ps
def i_Wal_next.E : Env := ⟨tt, lkF [], 9, 0, [], []⟩
theorem i_Wal_next.hok (hE : EOk Tryz.prog (i_Wal_next.E)) : HintOk Tryz.prog i_Wal_next.E (bodyOf Tryz.f181) (.a) := HintOk.n1 (Q := True) (by kernel_rfl) trivial
theorem i_Wal_next.hE : EOk Tryz.prog (i_Wal_next.E) := EOk.of ttOk (trivial)
theorem i_Wal_next.fok : FOk Tryz.prog 181 i_Wal_next.fi :=
  fokS (E := i_Wal_next.E) (wy := ⟨[[none]], [[]], []⟩) (h := (fun gs => .a)) (G := fun t g => i_Wal_next.F (fun y0 => g y0) t.1.1 t.1.2.1 t.1.2.2.1 t.1.2.2.2.1) (by kernel_rfl) i_Wal_next.hE Tryz.func181 (by kernel_rfl) rfl (Nat.le_refl _) (fun t => HintOk.n1 (by kernel_rfl) (i_Wal_next.hok i_Wal_next.hE)) (fun t g => i_Wal_next_nat g t.1.1 t.1.2.1 t.1.2.2.1 t.1.2.2.2.1) (fun t => by kernel_rfl)
/-! __loop.example_g00220_impl.walReader_.segment -/
def i_walReader_segment.j1 {R : Type} (kkn : Bool → Int → Int → Bool → Int → Int → Int → List ByteArray → List ByteArray → ByteArray → ByteArray → Int → List ByteArray → Option R) (isLast : Bool) (used : Int) (code : Int) (number : Int) (r : Int) (r1 : Int) (r2 : Int) (f : List ByteArray) (isLast1 : List ByteArray) (f1 : ByteArray) (f2 : ByteArray) (f3 : Int) (frames : List ByteArray) : Option R :=
  cond (code != (0 : Int)) (
    cond (isLast) (kkn isLast used number (!(code == (16 : Int))) r r1 r2 f isLast1 f1 f2 f3 frames) (kkn isLast used number true r r1 r2 f isLast1 f1 f2 f3 frames)) (kkn isLast used number false r r1 r2 f isLast1 f1 f2 f3 frames)
theorem i_walReader_segment.j1_nat {R S : Type} (g : R → Option S) (kkn : Bool → Int → Int → Bool → Int → Int → Int → List ByteArray → List ByteArray → ByteArray → ByteArray → Int → List ByteArray → Option R) (isLast : Bool) (used : Int) (code : Int) (number : Int) (r : Int) (r1 : Int) (r2 : Int) (f : List ByteArray) (isLast1 : List ByteArray) (f1 : ByteArray) (f2 : ByteArray) (f3 : Int) (frames : List ByteArray) : i_walReader_segment.j1 (fun y0 y1 y2 y3 y4 y5 y6 y7 y8 y9 y10 y11 y12 => (kkn y0 y1 y2 y3 y4 y5 y6 y7 y8 y9 y10 y11 y12).bind g) isLast used code number r r1 r2 f isLast1 f1 f2 f3 frames = (i_walReader_segment.j1 kkn isLast used code number r r1 r2 f isLast1 f1 f2 f3 frames).bind g := by
  simp only [i_walReader_segment.j1, grd_bind, cnd_bind, bnd_bind, non_bind]
def i_walReader_segment.j2 {R : Type} (kkn : Int → Int → Int → Int → Int → List ByteArray → List ByteArray → ByteArray → ByteArray → Int → List ByteArray → Option R) (kkr : Int → Int → Int → Int → List ByteArray → List ByteArray → Option R) (isLast : Bool) (used : Int) (code : Int) (number : Int) (r : Int) (r1 : Int) (r2 : Int) (f : List ByteArray) (isLast1 : List ByteArray) (f1 : ByteArray) (f2 : ByteArray) (f3 : Int) (frames : List ByteArray) : Option R :=
  i_walReader_segment.j1 (fun isLast2 used1 number1 b r3 r4 r5 f4 isLast3 f5 f6 f7 frames1 =>
    cond (b) (kkr (8 : Int) r3 r4 r5 f4 isLast3) (
      cond (decide (r5 > (0 : Int))) (
        cond (number1 != (IntKind.wrap .i64 (r5 + (1 : Int)))) (kkr (3 : Int) r3 r4 r5 f4 isLast3) (
          cond ((List.length frames1 : Int) == (0 : Int)) (
            cond (!isLast2) (kkr (3 : Int) r3 r4 r5 f4 isLast3) (kkn used1 number1 r3 r4 r5 f4 isLast3 f5 f6 f7 frames1)) (kkn used1 number1 r3 r4 r5 f4 isLast3 f5 f6 f7 frames1))) (
        cond ((List.length frames1 : Int) == (0 : Int)) (
          cond (!isLast2) (kkr (3 : Int) r3 r4 r5 f4 isLast3) (kkn used1 number1 r3 r4 r5 f4 isLast3 f5 f6 f7 frames1)) (kkn used1 number1 r3 r4 r5 f4 isLast3 f5 f6 f7 frames1)))) isLast used code number r r1 r2 f isLast1 f1 f2 f3 frames
theorem i_walReader_segment.j2_nat {R S : Type} (g : R → Option S) (kkn : Int → Int → Int → Int → Int → List ByteArray → List ByteArray → ByteArray → ByteArray → Int → List ByteArray → Option R) (kkr : Int → Int → Int → Int → List ByteArray → List ByteArray → Option R) (isLast : Bool) (used : Int) (code : Int) (number : Int) (r : Int) (r1 : Int) (r2 : Int) (f : List ByteArray) (isLast1 : List ByteArray) (f1 : ByteArray) (f2 : ByteArray) (f3 : Int) (frames : List ByteArray) : i_walReader_segment.j2 (fun y0 y1 y2 y3 y4 y5 y6 y7 y8 y9 y10 => (kkn y0 y1 y2 y3 y4 y5 y6 y7 y8 y9 y10).bind g) (fun y0 y1 y2 y3 y4 y5 => (kkr y0 y1 y2 y3 y4 y5).bind g) isLast used code number r r1 r2 f isLast1 f1 f2 f3 frames = (i_walReader_segment.j2 kkn kkr isLast used code number r r1 r2 f isLast1 f1 f2 f3 frames).bind g := by
  simp only [i_walReader_segment.j2, grd_bind, cnd_bind, bnd_bind, non_bind, ← i_walReader_segment.j1_nat]
def i_walReader_segment.j3 {R : Type} (kkn : Int → Int → Int → Int → List ByteArray → List ByteArray → List ByteArray → Option R) (kkr : Int → Int → Int → Int → List ByteArray → List ByteArray → Option R) (first : Int) (r : Int) (r1 : Int) (r2 : Int) (f : List ByteArray) (frames : List ByteArray) (l : List ByteArray) : Option R :=
  grd (gIx (0 : Int) (List.length frames)) <|
  cond ((ByteArray.size (rdE (.str : Kd) frames (Int.toNat (0 : Int))) : Int) != (4 : Int)) (kkr (3 : Int) r r1 r2 f l) (
    cond (decide ((List.length l : Int) > (1 : Int))) (
      (i_Wal_next r f l r1).bind fun r3 =>
      cond (first != r3) (kkr (3 : Int) r r1 r2 f l) (kkn first r r1 r2 f frames l)) (kkn first r r1 r2 f frames l))
theorem i_walReader_segment.j3_nat {R S : Type} (g : R → Option S) (kkn : Int → Int → Int → Int → List ByteArray → List ByteArray → List ByteArray → Option R) (kkr : Int → Int → Int → Int → List ByteArray → List ByteArray → Option R) (first : Int) (r : Int) (r1 : Int) (r2 : Int) (f : List ByteArray) (frames : List ByteArray) (l : List ByteArray) : i_walReader_segment.j3 (fun y0 y1 y2 y3 y4 y5 y6 => (kkn y0 y1 y2 y3 y4 y5 y6).bind g) (fun y0 y1 y2 y3 y4 y5 => (kkr y0 y1 y2 y3 y4 y5).bind g) first r r1 r2 f frames l = (i_walReader_segment.j3 kkn kkr first r r1 r2 f frames l).bind g := by
  simp only [i_walReader_segment.j3, grd_bind, cnd_bind, bnd_bind, non_bind]
def i_walReader_segment.j4 {R : Type} (kkn : Int → Int → Int → List ByteArray → List ByteArray → List ByteArray → Option R) (first : Int) (r : Int) (r1 : Int) (r2 : Int) (f : List ByteArray) (frames : List ByteArray) (l : List ByteArray) : Option R :=
  cond ((List.length l : Int) == (1 : Int)) (kkn first r1 r2 f frames l) (kkn r r1 r2 f frames l)
theorem i_walReader_segment.j4_nat {R S : Type} (g : R → Option S) (kkn : Int → Int → Int → List ByteArray → List ByteArray → List ByteArray → Option R) (first : Int) (r : Int) (r1 : Int) (r2 : Int) (f : List ByteArray) (frames : List ByteArray) (l : List ByteArray) : i_walReader_segment.j4 (fun y0 y1 y2 y3 y4 y5 => (kkn y0 y1 y2 y3 y4 y5).bind g) first r r1 r2 f frames l = (i_walReader_segment.j4 kkn first r r1 r2 f frames l).bind g := by
  simp only [i_walReader_segment.j4, grd_bind, cnd_bind, bnd_bind, non_bind]
def i_walReader_segment.F {R : Type} (kk : Int → Int → List ByteArray → List ByteArray → Int → Int → Option R) (r_wal_First : Int) (r_wal_Records : List ByteArray) (r_wal_Names : List ByteArray) (r_wal_Torn : Int) (r_last : Int) (f_Name : ByteArray) (f_Data : ByteArray) (f_Sure : Int) (isLast : Bool) : Option R :=
  (i_readFrames f_Data).bind fun r =>
  (i_segmentOf f_Name).bind fun r1 =>
  i_walReader_segment.j2 (fun used number r2 r3 r4 f isLast1 f1 f2 f3 frames =>
    grd (gRm (((List.length isLast1) + (List.length [f1])) * 16)) <|
    cond ((List.length frames : Int) == (0 : Int)) (
      kk (0 : Int) r2 f (isLast1 ++ [f1]) (IntKind.wrap .i64 ((ByteArray.size f2 : Int) - used)) number) (
      grd (gIx (0 : Int) (List.length frames)) <|
      (i_numberOf (rdE (.str : Kd) frames (Int.toNat (0 : Int)))).bind fun r5 =>
      i_walReader_segment.j3 (fun first r6 r7 r8 f4 frames1 l =>
        i_walReader_segment.j4 (fun r9 r10 r11 f5 frames2 l1 =>
          grd (gSl (1 : Int) (List.length frames2 : Int) (List.length frames2)) <|
          grd (gRm (((List.length f5) + (List.length (sub frames2 (1 : Int) (List.length frames2 : Int)))) * 16)) <|
          kk (0 : Int) r9 (f5 ++ (sub frames2 (1 : Int) (List.length frames2 : Int))) l1 r10 r11) first r6 r7 r8 f4 frames1 l) (fun i r12 r13 r14 f6 l2 => kk i r12 f6 l2 r13 r14) r5 r2 (IntKind.wrap .i64 ((ByteArray.size f2 : Int) - used)) number f frames (isLast1 ++ [f1]))) (fun i1 r15 r16 r17 f7 isLast2 => kk i1 r15 f7 isLast2 r16 r17) isLast r.2.1 r.2.2 r1 r_wal_First r_wal_Torn r_last r_wal_Records r_wal_Names f_Name f_Data f_Sure r.1
theorem i_walReader_segment.F_nat {R S : Type} (g : R → Option S) (kk : Int → Int → List ByteArray → List ByteArray → Int → Int → Option R) (r_wal_First : Int) (r_wal_Records : List ByteArray) (r_wal_Names : List ByteArray) (r_wal_Torn : Int) (r_last : Int) (f_Name : ByteArray) (f_Data : ByteArray) (f_Sure : Int) (isLast : Bool) : i_walReader_segment.F (fun y0 y1 y2 y3 y4 y5 => (kk y0 y1 y2 y3 y4 y5).bind g) r_wal_First r_wal_Records r_wal_Names r_wal_Torn r_last f_Name f_Data f_Sure isLast = (i_walReader_segment.F kk r_wal_First r_wal_Records r_wal_Names r_wal_Torn r_last f_Name f_Data f_Sure isLast).bind g := by
  simp only [i_walReader_segment.F, grd_bind, cnd_bind, bnd_bind, non_bind, ← i_walReader_segment.j2_nat, ← i_walReader_segment.j3_nat, ← i_walReader_segment.j4_nat]
def i_walReader_segment (r_wal_First : Int) (r_wal_Records : List ByteArray) (r_wal_Names : List ByteArray) (r_wal_Torn : Int) (r_last : Int) (f_Name : ByteArray) (f_Data : ByteArray) (f_Sure : Int) (isLast : Bool) : Option (Int × Int × List ByteArray × List ByteArray × Int × Int) := i_walReader_segment.F (fun y0 y1 y2 y3 y4 y5 => some (y0, y1, y2, y3, y4, y5)) r_wal_First r_wal_Records r_wal_Names r_wal_Torn r_last f_Name f_Data f_Sure isLast
theorem i_walReader_segment_nat {S : Type} (g : (Int × Int × List ByteArray × List ByteArray × Int × Int) → Option S) (r_wal_First : Int) (r_wal_Records : List ByteArray) (r_wal_Names : List ByteArray) (r_wal_Torn : Int) (r_last : Int) (f_Name : ByteArray) (f_Data : ByteArray) (f_Sure : Int) (isLast : Bool) : i_walReader_segment.F (fun y0 y1 y2 y3 y4 y5 => g (y0, y1, y2, y3, y4, y5)) r_wal_First r_wal_Records r_wal_Names r_wal_Torn r_last f_Name f_Data f_Sure isLast = (i_walReader_segment r_wal_First r_wal_Records r_wal_Names r_wal_Torn r_last f_Name f_Data f_Sure isLast).bind g := i_walReader_segment.F_nat g (fun y0 y1 y2 y3 y4 y5 => some (y0, y1, y2, y3, y4, y5)) r_wal_First r_wal_Records r_wal_Names r_wal_Torn r_last f_Name f_Data f_Sure isLast
def i_walReader_segment.out : (Int × Int × List ByteArray × List ByteArray × Int × Int) → CRes := fun a => ⟨encL SV.enc [.one (.int .i64)] (a.1, ()), [encL SC.enc [.int .i64, .own [] .str true, .own [] .str true, .int .i64, .int .i64] (a.2.1, a.2.2.1, a.2.2.2.1, a.2.2.2.2.1, a.2.2.2.2.2, ()), encL SC.enc [] (), encL SC.enc [] ()]⟩
def i_walReader_segment.ps : List PS := [.ptr [none, some (.str, true), some (.str, true), none, none], .val [none, none, none], .val [none]]
def i_walReader_segment.sA : List SA := [.ptr [.int .i64, .own [] .str true, .own [] .str true, .int .i64, .int .i64], .v (.agg [.str, .str, .int .i64]), .v (.one (.bool))]
def i_walReader_segment.fi : FI := FIs i_walReader_segment.sA (Int × Int × List ByteArray × List ByteArray × Int × Int) (fun t => i_walReader_segment t.1.1 t.1.2.1 t.1.2.2.1 t.1.2.2.2.1 t.1.2.2.2.2.1 t.2.1.1 t.2.1.2.1 t.2.1.2.2.1 t.2.2.1) i_walReader_segment.out i_walReader_segment.ps
def i_walReader_segment.E : Env := ⟨tt, lkF [(113, i_segmentOf.fi), (140, i_numberOf.fi), (180, i_readFrames.fi), (181, i_Wal_next.fi)], 137, 3, [], []⟩
def i_walReader_segment.sh1 : SK := ⟨[.v (.one (.bptr 0 0)), .v (.one (.bool)), .v (.one (.bptr 3 0)), .v (.one (.slo 4)), .v (.one (.int .i64)), .v (.one (.int .i64)), .v (.one (.int .i64))], [.box [.int .i64, .slo 1, .slo 2, .int .i64, .int .i64], .arr .str [] true, .arr .str [] true, .box [.str, .str, .int .i64], .arr .str [] true]⟩
def i_walReader_segment.sh1n : SK := ⟨[.v (.one (.bptr 0 0)), .v (.one (.bool)), .v (.one (.bptr 3 0)), .v (.one (.slo 4)), .v (.one (.int .i64)), .v (.one (.int .i64)), .v (.one (.bool))], [.box [.int .i64, .slo 1, .slo 2, .int .i64, .int .i64], .arr .str [] true, .arr .str [] true, .box [.str, .str, .int .i64], .arr .str [] true]⟩
def i_walReader_segment.ko1 : Ex → List CastAt × List Nat
  | .nrm => ([], [0, 2, 4, 7, 8, 10, 22])
  | .ret => ([], [])
  | .ext i => ([], [])
def i_walReader_segment.G1 (R : Type) (t : i_walReader_segment.sh1.T) (K : Ex → Kp → Option R) : Option R := i_walReader_segment.j1 (fun y0 y1 y2 y3 y4 y5 y6 y7 y8 y9 y10 y11 y12 => K .nrm (SK.enc i_walReader_segment.sh1n (((), y0, (), (), y1, y2, y3, ()), ((y4, (), (), y5, y6, ()), y7, y8, (y9, y10, y11, ()), y12, ())))) t.1.2.1 t.1.2.2.2.2.1 t.1.2.2.2.2.2.1 t.1.2.2.2.2.2.2.1 t.2.1.1 t.2.1.2.2.2.1 t.2.1.2.2.2.2.1 t.2.2.1 t.2.2.2.1 t.2.2.2.2.1.1 t.2.2.2.2.1.2.1 t.2.2.2.2.1.2.2.1 t.2.2.2.2.2.1
def i_walReader_segment.S1 : Sum := ⟨([], [0, 2, 4, 7, 8, 9, 10]), sumF i_walReader_segment.sh1 (i_walReader_segment.G1), i_walReader_segment.ko1⟩
theorem i_walReader_segment.ok1 (hE : EOk Tryz.prog (i_walReader_segment.E)) : SumOk Tryz.prog i_walReader_segment.E (cL (cB (cL (cR (cR (cR (bodyOf Tryz.f138))))))) (i_walReader_segment.S1) := by
  have hh : HintOk Tryz.prog i_walReader_segment.E (cL (cB (cL (cR (cR (cR (bodyOf Tryz.f138))))))) (.a) := HintOk.n1 (Q := True) (by kernel_rfl) trivial
  exact sumS (kin := ([], [0, 2, 4, 7, 8, 9, 10])) (kout := i_walReader_segment.ko1) (sh := i_walReader_segment.sh1) (F := i_walReader_segment.G1) (ops_ok (hE.gv _)) (by kernel_rfl) hh (fun R t K => by kernel_rfl)
def i_walReader_segment.sh2 : SK := ⟨[.v (.one (.bptr 0 0)), .v (.one (.bool)), .v (.one (.bptr 3 0)), .v (.one (.slo 4)), .v (.one (.int .i64)), .v (.one (.int .i64)), .v (.one (.int .i64))], [.box [.int .i64, .slo 1, .slo 2, .int .i64, .int .i64], .arr .str [] true, .arr .str [] true, .box [.str, .str, .int .i64], .arr .str [] true]⟩
def i_walReader_segment.sh2n : SK := ⟨[.v (.one (.bptr 0 0)), .v (.one (.bptr 3 0)), .v (.one (.slo 4)), .v (.one (.int .i64)), .v (.one (.int .i64))], [.box [.int .i64, .slo 1, .slo 2, .int .i64, .int .i64], .arr .str [] true, .arr .str [] true, .box [.str, .str, .int .i64], .arr .str [] true]⟩
def i_walReader_segment.sh2r : SK := ⟨[.v (.one (.bptr 0 0)), .v (.one (.int .i64))], [.box [.int .i64, .slo 1, .slo 2, .int .i64, .int .i64], .arr .str [] true, .arr .str [] true]⟩
def i_walReader_segment.ko2 : Ex → List CastAt × List Nat
  | .nrm => ([], [0, 4, 7, 8, 10])
  | .ret => ([], [0, 6])
  | .ext i => ([], [])
def i_walReader_segment.G2 (R : Type) (t : i_walReader_segment.sh2.T) (K : Ex → Kp → Option R) : Option R := i_walReader_segment.j2 (fun y0 y1 y2 y3 y4 y5 y6 y7 y8 y9 y10 => K .nrm (SK.enc i_walReader_segment.sh2n (((), (), (), y0, y1, ()), ((y2, (), (), y3, y4, ()), y5, y6, (y7, y8, y9, ()), y10, ())))) (fun y0 y1 y2 y3 y4 y5 => K .ret (SK.enc i_walReader_segment.sh2r (((), y0, ()), ((y1, (), (), y2, y3, ()), y4, y5, ())))) t.1.2.1 t.1.2.2.2.2.1 t.1.2.2.2.2.2.1 t.1.2.2.2.2.2.2.1 t.2.1.1 t.2.1.2.2.2.1 t.2.1.2.2.2.2.1 t.2.2.1 t.2.2.2.1 t.2.2.2.2.1.1 t.2.2.2.2.1.2.1 t.2.2.2.2.1.2.2.1 t.2.2.2.2.2.1
def i_walReader_segment.S2 : Sum := ⟨([], [0, 2, 4, 7, 8, 9, 10]), sumF i_walReader_segment.sh2 (i_walReader_segment.G2), i_walReader_segment.ko2⟩
theorem i_walReader_segment.ok2 (hE : EOk Tryz.prog (i_walReader_segment.E)) : SumOk Tryz.prog i_walReader_segment.E (cL (cR (cR (cR (bodyOf Tryz.f138))))) (i_walReader_segment.S2) := by
  have hh : HintOk Tryz.prog i_walReader_segment.E (cL (cR (cR (cR (bodyOf Tryz.f138))))) (.b (.n (.s (i_walReader_segment.S1)) (.a))) := HintOk.n1 (Q := (SumOk Tryz.prog i_walReader_segment.E (cL (cB (cL (cR (cR (cR (bodyOf Tryz.f138))))))) (i_walReader_segment.S1)) ∧ (True)) (by kernel_rfl) ⟨(i_walReader_segment.ok1 hE), trivial⟩
  exact sumS (kin := ([], [0, 2, 4, 7, 8, 9, 10])) (kout := i_walReader_segment.ko2) (sh := i_walReader_segment.sh2) (F := i_walReader_segment.G2) (ops_ok (hE.gv _)) (by kernel_rfl) hh (fun R t K => by kernel_rfl)
def i_walReader_segment.sh3 : SK := ⟨[.v (.one (.bptr 0 0)), .v (.one (.slo 3)), .v (.one (.int .i64))], [.box [.int .i64, .slo 1, .slo 4, .int .i64, .int .i64], .arr .str [] true, .dead, .arr .str [] true, .arr .str [] true]⟩
def i_walReader_segment.sh3n : SK := ⟨[.v (.one (.bptr 0 0)), .v (.one (.slo 3)), .v (.one (.int .i64))], [.box [.int .i64, .slo 1, .slo 4, .int .i64, .int .i64], .arr .str [] true, .dead, .arr .str [] true, .arr .str [] true]⟩
def i_walReader_segment.sh3r : SK := ⟨[.v (.one (.bptr 0 0)), .v (.one (.int .i64))], [.box [.int .i64, .slo 1, .slo 3, .int .i64, .int .i64], .arr .str [] true, .dead, .arr .str [] true]⟩
def i_walReader_segment.ko3 : Ex → List CastAt × List Nat
  | .nrm => ([], [0, 7, 11])
  | .ret => ([], [0, 6])
  | .ext i => ([], [])
def i_walReader_segment.G3 (R : Type) (t : i_walReader_segment.sh3.T) (K : Ex → Kp → Option R) : Option R := i_walReader_segment.j3 (fun y0 y1 y2 y3 y4 y5 y6 => K .nrm (SK.enc i_walReader_segment.sh3n (((), (), y0, ()), ((y1, (), (), y2, y3, ()), y4, (), y5, y6, ())))) (fun y0 y1 y2 y3 y4 y5 => K .ret (SK.enc i_walReader_segment.sh3r (((), y0, ()), ((y1, (), (), y2, y3, ()), y4, (), y5, ())))) t.1.2.2.1 t.2.1.1 t.2.1.2.2.2.1 t.2.1.2.2.2.2.1 t.2.2.1 t.2.2.2.2.1 t.2.2.2.2.2.1
def i_walReader_segment.S3 : Sum := ⟨([], [0, 7, 11]), sumF i_walReader_segment.sh3 (i_walReader_segment.G3), i_walReader_segment.ko3⟩
theorem i_walReader_segment.ok3 (hE : EOk Tryz.prog (i_walReader_segment.E)) : SumOk Tryz.prog i_walReader_segment.E (cL (cR (cR (cR (cR (cR (cR (cR (bodyOf Tryz.f138))))))))) (i_walReader_segment.S3) := by
  have hh : HintOk Tryz.prog i_walReader_segment.E (cL (cR (cR (cR (cR (cR (cR (cR (bodyOf Tryz.f138))))))))) (.a) := HintOk.n1 (Q := True) (by kernel_rfl) trivial
  exact sumS (kin := ([], [0, 7, 11])) (kout := i_walReader_segment.ko3) (sh := i_walReader_segment.sh3) (F := i_walReader_segment.G3) (ops_ok (hE.gv _)) (by kernel_rfl) hh (fun R t K => by kernel_rfl)
def i_walReader_segment.sh4 : SK := ⟨[.v (.one (.bptr 0 0)), .v (.one (.slo 3)), .v (.one (.int .i64))], [.box [.int .i64, .slo 1, .slo 4, .int .i64, .int .i64], .arr .str [] true, .dead, .arr .str [] true, .arr .str [] true]⟩
def i_walReader_segment.sh4n : SK := ⟨[.v (.one (.bptr 0 0)), .v (.one (.slo 3))], [.box [.int .i64, .slo 1, .slo 4, .int .i64, .int .i64], .arr .str [] true, .dead, .arr .str [] true, .arr .str [] true]⟩
def i_walReader_segment.ko4 : Ex → List CastAt × List Nat
  | .nrm => ([], [0, 7])
  | .ret => ([], [])
  | .ext i => ([], [])
def i_walReader_segment.G4 (R : Type) (t : i_walReader_segment.sh4.T) (K : Ex → Kp → Option R) : Option R := i_walReader_segment.j4 (fun y0 y1 y2 y3 y4 y5 => K .nrm (SK.enc i_walReader_segment.sh4n (((), (), ()), ((y0, (), (), y1, y2, ()), y3, (), y4, y5, ())))) t.1.2.2.1 t.2.1.1 t.2.1.2.2.2.1 t.2.1.2.2.2.2.1 t.2.2.1 t.2.2.2.2.1 t.2.2.2.2.2.1
def i_walReader_segment.S4 : Sum := ⟨([], [0, 7, 11]), sumF i_walReader_segment.sh4 (i_walReader_segment.G4), i_walReader_segment.ko4⟩
theorem i_walReader_segment.ok4 (hE : EOk Tryz.prog (i_walReader_segment.E)) : SumOk Tryz.prog i_walReader_segment.E (cL (cR (cR (cR (cR (cR (cR (cR (cR (bodyOf Tryz.f138)))))))))) (i_walReader_segment.S4) := by
  have hh : HintOk Tryz.prog i_walReader_segment.E (cL (cR (cR (cR (cR (cR (cR (cR (cR (bodyOf Tryz.f138)))))))))) (.a) := HintOk.n1 (Q := True) (by kernel_rfl) trivial
  exact sumS (kin := ([], [0, 7, 11])) (kout := i_walReader_segment.ko4) (sh := i_walReader_segment.sh4) (F := i_walReader_segment.G4) (ops_ok (hE.gv _)) (by kernel_rfl) hh (fun R t K => by kernel_rfl)
theorem i_walReader_segment.hok (hE : EOk Tryz.prog (i_walReader_segment.E)) : HintOk Tryz.prog i_walReader_segment.E (bodyOf Tryz.f138) (.n (.a) (.n (.a) (.n (.a) (.n (.s (i_walReader_segment.S2)) (.n (.a) (.n (.a) (.n (.a) (.n (.s (i_walReader_segment.S3)) (.n (.s (i_walReader_segment.S4)) (.a)))))))))) := HintOk.n1 (Q := (True) ∧ ((True) ∧ ((True) ∧ ((SumOk Tryz.prog i_walReader_segment.E (cL (cR (cR (cR (bodyOf Tryz.f138))))) (i_walReader_segment.S2)) ∧ ((True) ∧ ((True) ∧ ((True) ∧ ((SumOk Tryz.prog i_walReader_segment.E (cL (cR (cR (cR (cR (cR (cR (cR (bodyOf Tryz.f138))))))))) (i_walReader_segment.S3)) ∧ ((SumOk Tryz.prog i_walReader_segment.E (cL (cR (cR (cR (cR (cR (cR (cR (cR (bodyOf Tryz.f138)))))))))) (i_walReader_segment.S4)) ∧ (True)))))))))) (by kernel_rfl) ⟨trivial, ⟨trivial, ⟨trivial, ⟨(i_walReader_segment.ok2 hE), ⟨trivial, ⟨trivial, ⟨trivial, ⟨(i_walReader_segment.ok3 hE), ⟨(i_walReader_segment.ok4 hE), trivial⟩⟩⟩⟩⟩⟩⟩⟩⟩
theorem i_walReader_segment.hE : EOk Tryz.prog (i_walReader_segment.E) := EOk.of ttOk (⟨i_segmentOf.fok, ⟨i_numberOf.fok, ⟨i_readFrames.fok, ⟨i_Wal_next.fok, trivial⟩⟩⟩⟩)
theorem i_walReader_segment.fok : FOk Tryz.prog 138 i_walReader_segment.fi :=
  fokS (E := i_walReader_segment.E) (wy := ⟨[[none]], [[none, some (.str, true), some (.str, true), none, none], [], []], []⟩) (h := (fun gs => .n (.a) (.n (.a) (.n (.a) (.n (.s (i_walReader_segment.S2)) (.n (.a) (.n (.a) (.n (.a) (.n (.s (i_walReader_segment.S3)) (.n (.s (i_walReader_segment.S4)) (.a))))))))))) (G := fun t g => i_walReader_segment.F (fun y0 y1 y2 y3 y4 y5 => g (y0, y1, y2, y3, y4, y5)) t.1.1 t.1.2.1 t.1.2.2.1 t.1.2.2.2.1 t.1.2.2.2.2.1 t.2.1.1 t.2.1.2.1 t.2.1.2.2.1 t.2.2.1) (by kernel_rfl) i_walReader_segment.hE Tryz.func138 (by kernel_rfl) rfl (Nat.le_refl _) (fun t => HintOk.n1 (by kernel_rfl) (i_walReader_segment.hok i_walReader_segment.hE)) (fun t g => i_walReader_segment_nat g t.1.1 t.1.2.1 t.1.2.2.1 t.1.2.2.2.1 t.1.2.2.2.2.1 t.2.1.1 t.2.1.2.1 t.2.1.2.2.1 t.2.2.1) (fun t => by kernel_rfl)
/-! loop.example_g00220_impl.walRead -/
def i_walRead.l1 {R : Type} (kke0 : Int → Int → List (El kFile) → Option R) : Nat → List (El kFile) → Int → Int → Int → Int → List (El kFile) → Option R
  | 0, _, _, _, _, _, _ => none
  | n + 1, l, i, i1, i2, i3, segments =>
    cond (decide (i1 < i)) (
      grd (gIx i1 (List.length l)) <|
      (i_segmentOf ((rdE kFile l (Int.toNat i1)).1)).bind fun r =>
      cond (decide (r > (0 : Int))) (
        grd (gRm (((List.length segments) + (List.length [rdE kFile l (Int.toNat i1)])) * 40)) <|
        i_walRead.l1 kke0 n l i (IntKind.wrap .i64 (i1 + (1 : Int))) i2 i3 (segments ++ [rdE kFile l (Int.toNat i1)])) (i_walRead.l1 kke0 n l i (IntKind.wrap .i64 (i1 + (1 : Int))) i2 i3 segments)) (kke0 i2 i3 segments)
theorem i_walRead.l1_nat {R S : Type} (g : R → Option S) (kke0 : Int → Int → List (El kFile) → Option R) : ∀ (n : Nat) (l : List (El kFile)) (i : Int) (i1 : Int) (i2 : Int) (i3 : Int) (segments : List (El kFile)), i_walRead.l1 (fun y0 y1 y2 => (kke0 y0 y1 y2).bind g) n l i i1 i2 i3 segments = (i_walRead.l1 kke0 n l i i1 i2 i3 segments).bind g := by
  intro n
  induction n with
  | zero => intros; rfl
  | succ n ih => intros; simp only [i_walRead.l1, grd_bind, cnd_bind, bnd_bind, non_bind, ih]
def i_walRead.l2 {R : Type} (kke2 : Int → Int → Int → Int → Int → List ByteArray → List ByteArray → Option R) (kkr : Int → Int → Int → Option R) : Nat → Int → Int → Int → Int → List (El kFile) → Int → Int → Int → List ByteArray → List ByteArray → Option R
  | 0, _, _, _, _, _, _, _, _, _, _ => none
  | n + 1, i, i1, i2, i3, segments, r, r1, r2, l, l1 =>
    cond (decide (i1 < i)) (
      grd (gIx i1 (List.length segments)) <|
      (i_walReader_segment r l l1 r1 r2 ((rdE kFile segments (Int.toNat i1)).1) ((rdE kFile segments (Int.toNat i1)).2.1) ((rdE kFile segments (Int.toNat i1)).2.2) (i1 == (IntKind.wrap .i64 ((List.length segments : Int) - (1 : Int))))).bind fun r3 =>
      cond (r3.1 != (0 : Int)) (kkr r3.1 (0 : Int) (0 : Int)) (
        i_walRead.l2 kke2 kkr n i (IntKind.wrap .i64 (i1 + (1 : Int))) i2 i3 segments r3.2.1 r3.2.2.2.2.1 r3.2.2.2.2.2 r3.2.2.1 r3.2.2.2.1)) (kke2 i2 i3 r r1 r2 l l1)
theorem i_walRead.l2_nat {R S : Type} (g : R → Option S) (kke2 : Int → Int → Int → Int → Int → List ByteArray → List ByteArray → Option R) (kkr : Int → Int → Int → Option R) : ∀ (n : Nat) (i : Int) (i1 : Int) (i2 : Int) (i3 : Int) (segments : List (El kFile)) (r : Int) (r1 : Int) (r2 : Int) (l : List ByteArray) (l1 : List ByteArray), i_walRead.l2 (fun y0 y1 y2 y3 y4 y5 y6 => (kke2 y0 y1 y2 y3 y4 y5 y6).bind g) (fun y0 y1 y2 => (kkr y0 y1 y2).bind g) n i i1 i2 i3 segments r r1 r2 l l1 = (i_walRead.l2 kke2 kkr n i i1 i2 i3 segments r r1 r2 l l1).bind g := by
  intro n
  induction n with
  | zero => intros; rfl
  | succ n ih => intros; simp only [i_walRead.l2, grd_bind, cnd_bind, bnd_bind, non_bind, ih]
def i_walRead.F {R : Type} (kk : Int → List ByteArray → List ByteArray → Int → Int → Option R) (d_Room : Int) (d_Files : List (El kFile)) : Option R :=
  i_walRead.l1 (fun i i1 segments =>
    i_walRead.l2 (fun i2 i3 r r1 r2 l l1 => kk r l l1 r1 (0 : Int)) (fun i4 i5 i6 => kk i5 [] [] i6 i4) fuel (List.length segments : Int) (0 : Int) i i1 segments (0 : Int) (0 : Int) (0 : Int) [] []) fuel d_Files (List.length d_Files : Int) (0 : Int) (0 : Int) (0 : Int) ([] : List (El kFile))
theorem i_walRead.F_nat {R S : Type} (g : R → Option S) (kk : Int → List ByteArray → List ByteArray → Int → Int → Option R) (d_Room : Int) (d_Files : List (El kFile)) : i_walRead.F (fun y0 y1 y2 y3 y4 => (kk y0 y1 y2 y3 y4).bind g) d_Room d_Files = (i_walRead.F kk d_Room d_Files).bind g := by
  simp only [i_walRead.F, grd_bind, cnd_bind, bnd_bind, non_bind, ← i_walRead.l1_nat, ← i_walRead.l2_nat]
def i_walRead (d_Room : Int) (d_Files : List (El kFile)) : Option (Int × List ByteArray × List ByteArray × Int × Int) := i_walRead.F (fun y0 y1 y2 y3 y4 => some (y0, y1, y2, y3, y4)) d_Room d_Files
theorem i_walRead_nat {S : Type} (g : (Int × List ByteArray × List ByteArray × Int × Int) → Option S) (d_Room : Int) (d_Files : List (El kFile)) : i_walRead.F (fun y0 y1 y2 y3 y4 => g (y0, y1, y2, y3, y4)) d_Room d_Files = (i_walRead d_Room d_Files).bind g := i_walRead.F_nat g (fun y0 y1 y2 y3 y4 => some (y0, y1, y2, y3, y4)) d_Room d_Files
def i_walRead.out : (Int × List ByteArray × List ByteArray × Int × Int) → CRes := fun a => ⟨encL SV.enc [.agg [.int .i64, .own [] .str true, .own [] .str true, .int .i64], .one (.int .i64)] ((a.1, a.2.1, a.2.2.1, a.2.2.2.1, ()), a.2.2.2.2, ()), [encL SC.enc [] ()]⟩
def i_walRead.ps : List PS := [.val [none, some (kFile, false)]]
def i_walRead.sA : List SA := [.v (.agg [.int .i64, .slv [] kFile])]
def i_walRead.fi : FI := FIs i_walRead.sA (Int × List ByteArray × List ByteArray × Int × Int) (fun t => i_walRead t.1.1 t.1.2.1) i_walRead.out i_walRead.ps
def i_walRead.E : Env := ⟨tt, lkF [(113, i_segmentOf.fi), (138, i_walReader_segment.fi)], 54, 0, [], []⟩
def i_walRead.sh1 : SK := ⟨[.v (.one (.bptr 0 0)), .v (.one (.slo 1)), .v (.one (.slv [1] kFile)), .v (.one (.int .i64)), .v (.one (.int .i64))], [.box [.int .i64, .nil, .nil, .int .i64], .arr kFile [] true]⟩
def i_walRead.sh1e0 : SK := ⟨[.v (.one (.bptr 0 0)), .v (.one (.slo 1))], [.box [.int .i64, .nil, .nil, .int .i64], .arr kFile [] true]⟩
def i_walRead.ko1 : Ex → List CastAt × List Nat
  | .nrm => ([], [])
  | .ret => ([], [])
  | .ext i => cond (Nat.beq i 0) ([], [2, 4]) ([], [])
def i_walRead.G1 (n : Nat) (R : Type) (t : i_walRead.sh1.T) (K : Ex → Kp → Option R) : Option R := i_walRead.l1 (fun y0 y1 y2 => K (.ext 0) (SK.enc i_walRead.sh1e0 (((), (), ()), ((y0, (), (), y1, ()), y2, ())))) n t.1.2.2.1 t.1.2.2.2.1 t.1.2.2.2.2.1 t.2.1.1 t.2.1.2.2.2.1 t.2.2.1
def i_walRead.S1 : Sum := ⟨([], [2, 4, 13, 14, 15]), sumF i_walRead.sh1 (i_walRead.G1 fuel), i_walRead.ko1⟩
theorem i_walRead.ok1 (hE : EOk Tryz.prog (i_walRead.E)) : SumOk Tryz.prog i_walRead.E (cB (cR (cL (cR (cR (bodyOf Tryz.f91)))))) (i_walRead.S1) := by
  have hh : HintOk Tryz.prog i_walRead.E (cB (cB (cR (cL (cR (cR (bodyOf Tryz.f91))))))) (.a) := HintOk.n1 (Q := True) (by kernel_rfl) trivial
  have h := loopS (kin := ([], [2, 4, 13, 14, 15])) (kout := i_walRead.ko1) (sh := i_walRead.sh1) (F := i_walRead.G1) (ops_ok (hE.gv _)) (by kernel_rfl) hh (fun _ _ _ => rfl) (fun n R t K => by kernel_rfl) fuel
  exact HintOk.n1 (c := (cB (cR (cL (cR (cR (bodyOf Tryz.f91))))))) (h := .s (i_walRead.S1)) (P := Tryz.prog) (E := i_walRead.E) (by kernel_rfl) h
def i_walRead.sh2 : SK := ⟨[.v (.one (.bptr 0 0)), .v (.one (.slo 1)), .v (.one (.bptr 2 0)), .v (.one (.slo 1)), .v (.one (.int .i64)), .v (.one (.int .i64))], [.box [.int .i64, .nil, .nil, .int .i64], .arr kFile [] true, .box [.int .i64, .slo 3, .slo 4, .int .i64, .int .i64], .arr .str [] true, .arr .str [] true]⟩
def i_walRead.sh2e2 : SK := ⟨[.v (.one (.bptr 0 0)), .v (.one (.bptr 1 0))], [.box [.int .i64, .nil, .nil, .int .i64], .box [.int .i64, .slo 2, .slo 3, .int .i64, .int .i64], .arr .str [] true, .arr .str [] true]⟩
def i_walRead.sh2r : SK := ⟨[.v (.one (.bptr 0 0)), .v (.one (.int .i64))], [.box [.int .i64, .nil, .nil, .int .i64]]⟩
def i_walRead.ko2 : Ex → List CastAt × List Nat
  | .nrm => ([], [])
  | .ret => ([], [2, 3])
  | .ext i => cond (Nat.beq i 2) ([], [2, 7]) ([], [])
def i_walRead.G2 (n : Nat) (R : Type) (t : i_walRead.sh2.T) (K : Ex → Kp → Option R) : Option R := i_walRead.l2 (fun y0 y1 y2 y3 y4 y5 y6 => K (.ext 2) (SK.enc i_walRead.sh2e2 (((), (), ()), ((y0, (), (), y1, ()), (y2, (), (), y3, y4, ()), y5, y6, ())))) (fun y0 y1 y2 => K .ret (SK.enc i_walRead.sh2r (((), y0, ()), ((y1, (), (), y2, ()), ())))) n t.1.2.2.2.2.1 t.1.2.2.2.2.2.1 t.2.1.1 t.2.1.2.2.2.1 t.2.2.1 t.2.2.2.1.1 t.2.2.2.1.2.2.2.1 t.2.2.2.1.2.2.2.2.1 t.2.2.2.2.1 t.2.2.2.2.2.1
def i_walRead.S2 : Sum := ⟨([⟨7, true, 1, .own .str⟩, ⟨7, true, 2, .own .str⟩], [2, 4, 7, 30, 31, 32]), sumF i_walRead.sh2 (i_walRead.G2 fuel), i_walRead.ko2⟩
theorem i_walRead.ok2 (hE : EOk Tryz.prog (i_walRead.E)) : SumOk Tryz.prog i_walRead.E (cB (cR (cL (cR (cR (cR (cR (bodyOf Tryz.f91)))))))) (i_walRead.S2) := by
  have hh : HintOk Tryz.prog i_walRead.E (cB (cB (cR (cL (cR (cR (cR (cR (bodyOf Tryz.f91))))))))) (.a) := HintOk.n1 (Q := True) (by kernel_rfl) trivial
  have h := loopS (kin := ([⟨7, true, 1, .own .str⟩, ⟨7, true, 2, .own .str⟩], [2, 4, 7, 30, 31, 32])) (kout := i_walRead.ko2) (sh := i_walRead.sh2) (F := i_walRead.G2) (ops_ok (hE.gv _)) (by kernel_rfl) hh (fun _ _ _ => rfl) (fun n R t K => by kernel_rfl) fuel
  exact HintOk.n1 (c := (cB (cR (cL (cR (cR (cR (cR (bodyOf Tryz.f91))))))))) (h := .s (i_walRead.S2)) (P := Tryz.prog) (E := i_walRead.E) (by kernel_rfl) h
theorem i_walRead.hok (hE : EOk Tryz.prog (i_walRead.E)) : HintOk Tryz.prog i_walRead.E (bodyOf Tryz.f91) (.n (.a) (.n (.a) (.n (.n (.a) (.b (.s (i_walRead.S1)))) (.n (.a) (.n (.n (.a) (.b (.s (i_walRead.S2)))) (.a)))))) := HintOk.n1 (Q := (True) ∧ ((True) ∧ (((True) ∧ (SumOk Tryz.prog i_walRead.E (cB (cR (cL (cR (cR (bodyOf Tryz.f91)))))) (i_walRead.S1))) ∧ ((True) ∧ (((True) ∧ (SumOk Tryz.prog i_walRead.E (cB (cR (cL (cR (cR (cR (cR (bodyOf Tryz.f91)))))))) (i_walRead.S2))) ∧ (True)))))) (by kernel_rfl) ⟨trivial, ⟨trivial, ⟨⟨trivial, (i_walRead.ok1 hE)⟩, ⟨trivial, ⟨⟨trivial, (i_walRead.ok2 hE)⟩, trivial⟩⟩⟩⟩⟩
theorem i_walRead.hE : EOk Tryz.prog (i_walRead.E) := EOk.of ttOk (⟨i_segmentOf.fok, ⟨i_walReader_segment.fok, trivial⟩⟩)
theorem i_walRead.fok : FOk Tryz.prog 91 i_walRead.fi :=
  fokS (E := i_walRead.E) (wy := ⟨[[none, some (.str, true), some (.str, true), none], [none]], [[]], []⟩) (h := (fun gs => .n (.a) (.n (.a) (.n (.n (.a) (.b (.s (i_walRead.S1)))) (.n (.a) (.n (.n (.a) (.b (.s (i_walRead.S2)))) (.a))))))) (G := fun t g => i_walRead.F (fun y0 y1 y2 y3 y4 => g (y0, y1, y2, y3, y4)) t.1.1 t.1.2.1) (by kernel_rfl) i_walRead.hE Tryz.func91 (by kernel_rfl) rfl (Nat.le_refl _) (fun t => HintOk.n1 (by kernel_rfl) (i_walRead.hok i_walRead.hE)) (fun t g => i_walRead_nat g t.1.1 t.1.2.1) (fun t => by kernel_rfl)
/-! loop.example_g00220_impl.WalRead -/
def i_WalRead.F {R : Type} (kk : Int → List ByteArray → List ByteArray → Int → Int → Option R) (d_Room : Int) (d_Files : List (El kFile)) : Option R :=
  (i_DiskOK d_Room d_Files).bind fun r =>
  cond (!r) (kk (0 : Int) [] [] (0 : Int) (1 : Int)) (
    (i_walRead d_Room d_Files).bind fun r1 =>
    kk r1.1 r1.2.1 r1.2.2.1 r1.2.2.2.1 r1.2.2.2.2)
theorem i_WalRead.F_nat {R S : Type} (g : R → Option S) (kk : Int → List ByteArray → List ByteArray → Int → Int → Option R) (d_Room : Int) (d_Files : List (El kFile)) : i_WalRead.F (fun y0 y1 y2 y3 y4 => (kk y0 y1 y2 y3 y4).bind g) d_Room d_Files = (i_WalRead.F kk d_Room d_Files).bind g := by
  simp only [i_WalRead.F, grd_bind, cnd_bind, bnd_bind, non_bind]
def i_WalRead (d_Room : Int) (d_Files : List (El kFile)) : Option (Int × List ByteArray × List ByteArray × Int × Int) := i_WalRead.F (fun y0 y1 y2 y3 y4 => some (y0, y1, y2, y3, y4)) d_Room d_Files
theorem i_WalRead_nat {S : Type} (g : (Int × List ByteArray × List ByteArray × Int × Int) → Option S) (d_Room : Int) (d_Files : List (El kFile)) : i_WalRead.F (fun y0 y1 y2 y3 y4 => g (y0, y1, y2, y3, y4)) d_Room d_Files = (i_WalRead d_Room d_Files).bind g := i_WalRead.F_nat g (fun y0 y1 y2 y3 y4 => some (y0, y1, y2, y3, y4)) d_Room d_Files
def i_WalRead.out : (Int × List ByteArray × List ByteArray × Int × Int) → CRes := fun a => ⟨encL SV.enc [.agg [.int .i64, .own [] .str true, .own [] .str true, .int .i64], .one (.int .i64)] ((a.1, a.2.1, a.2.2.1, a.2.2.2.1, ()), a.2.2.2.2, ()), [encL SC.enc [] ()]⟩
def i_WalRead.ps : List PS := [.val [none, some (kFile, false)]]
def i_WalRead.sA : List SA := [.v (.agg [.int .i64, .slv [] kFile])]
def i_WalRead.fi : FI := FIs i_WalRead.sA (Int × List ByteArray × List ByteArray × Int × Int) (fun t => i_WalRead t.1.1 t.1.2.1) i_WalRead.out i_WalRead.ps
def i_WalRead.E : Env := ⟨tt, lkF [(64, i_DiskOK.fi), (91, i_walRead.fi)], 12, 0, [], []⟩
theorem i_WalRead.hok (hE : EOk Tryz.prog (i_WalRead.E)) : HintOk Tryz.prog i_WalRead.E (bodyOf Tryz.f46) (.a) := HintOk.n1 (Q := True) (by kernel_rfl) trivial
theorem i_WalRead.hE : EOk Tryz.prog (i_WalRead.E) := EOk.of ttOk (⟨i_DiskOK.fok, ⟨i_walRead.fok, trivial⟩⟩)
theorem i_WalRead.fok : FOk Tryz.prog 46 i_WalRead.fi :=
  fokS (E := i_WalRead.E) (wy := ⟨[[none, some (.str, true), some (.str, true), none], [none]], [[]], []⟩) (h := (fun gs => .a)) (G := fun t g => i_WalRead.F (fun y0 y1 y2 y3 y4 => g (y0, y1, y2, y3, y4)) t.1.1 t.1.2.1) (by kernel_rfl) i_WalRead.hE Tryz.func46 (by kernel_rfl) rfl (Nat.le_refl _) (fun t => HintOk.n1 (by kernel_rfl) (i_WalRead.hok i_WalRead.hE)) (fun t g => i_WalRead_nat g t.1.1 t.1.2.1) (fun t => by kernel_rfl)
/-! slices.IndexFunc___int_int_ -/
def slices_IndexFunc_SLint_int.l1 {R : Type} (f : ((Int × Unit) → Option (Bool × Unit))) (kke0 : Option R) (kkr : Int → Option R) : Nat → List Int → Int → Int → Option R
  | 0, _, _, _ => none
  | n + 1, s, i, i1 =>
    cond (decide (i1 < i)) (
      grd (gIx i1 (List.length s)) <|
      (f (rdE (.int .i64 : Kd) s (Int.toNat i1), ())).bind fun r =>
      cond (r.1) (kkr i1) (slices_IndexFunc_SLint_int.l1 f kke0 kkr n s i (IntKind.wrap .i64 (i1 + (1 : Int))))) (kke0)
theorem slices_IndexFunc_SLint_int.l1_nat {R S : Type} (g : R → Option S) (f : ((Int × Unit) → Option (Bool × Unit))) (kke0 : Option R) (kkr : Int → Option R) : ∀ (n : Nat) (s : List Int) (i : Int) (i1 : Int), slices_IndexFunc_SLint_int.l1 f (kke0.bind g) (fun y0 => (kkr y0).bind g) n s i i1 = (slices_IndexFunc_SLint_int.l1 f kke0 kkr n s i i1).bind g := by
  intro n
  induction n with
  | zero => intros; rfl
  | succ n ih => intros; simp only [slices_IndexFunc_SLint_int.l1, grd_bind, cnd_bind, bnd_bind, non_bind, ih]
def slices_IndexFunc_SLint_int.F {R : Type} (kk : Int → Option R) (s : List Int) (f : ((Int × Unit) → Option (Bool × Unit))) : Option R :=
  slices_IndexFunc_SLint_int.l1 f (kk (-1 : Int)) (fun i => kk i) fuel s (List.length s : Int) (0 : Int)
theorem slices_IndexFunc_SLint_int.F_nat {R S : Type} (g : R → Option S) (kk : Int → Option R) (s : List Int) (f : ((Int × Unit) → Option (Bool × Unit))) : slices_IndexFunc_SLint_int.F (fun y0 => (kk y0).bind g) s f = (slices_IndexFunc_SLint_int.F kk s f).bind g := by
  simp only [slices_IndexFunc_SLint_int.F, grd_bind, cnd_bind, bnd_bind, non_bind, ← slices_IndexFunc_SLint_int.l1_nat]
def slices_IndexFunc_SLint_int (s : List Int) (f : ((Int × Unit) → Option (Bool × Unit))) : Option Int := slices_IndexFunc_SLint_int.F (fun y0 => some y0) s f
theorem slices_IndexFunc_SLint_int_nat {S : Type} (g : Int → Option S) (s : List Int) (f : ((Int × Unit) → Option (Bool × Unit))) : slices_IndexFunc_SLint_int.F (fun y0 => g y0) s f = (slices_IndexFunc_SLint_int s f).bind g := slices_IndexFunc_SLint_int.F_nat g (fun y0 => some y0) s f
def slices_IndexFunc_SLint_int.out : Int → CRes := fun a => ⟨encL SV.enc [.one (.int .i64)] (a, ()), [encL SC.enc [] (), encL SC.enc [] ()]⟩
def slices_IndexFunc_SLint_int.ps : List PS := [.val [some ((.int .i64), false)], .fn [.one (.bool)]]
def slices_IndexFunc_SLint_int.sA : List SA := [.v (.one (.slv [] (.int .i64))), .fn [.one (.int .i64)] [.one (.bool)]]
def slices_IndexFunc_SLint_int.fi : FI := FIs slices_IndexFunc_SLint_int.sA (Int) (fun t => slices_IndexFunc_SLint_int t.1 t.2.1) slices_IndexFunc_SLint_int.out slices_IndexFunc_SLint_int.ps
def slices_IndexFunc_SLint_int.E : Env := ⟨tt, lkF [], 19, 0, [], []⟩
def slices_IndexFunc_SLint_int.sh1 : SK := ⟨[.v (.one (.slv [1] (.int .i64))), .v (.one (.fv 0)), .v (.one (.int .i64)), .v (.one (.int .i64))], []⟩
def slices_IndexFunc_SLint_int.sh1e0 : SK := ⟨[], []⟩
def slices_IndexFunc_SLint_int.sh1r : SK := ⟨[.v (.one (.int .i64))], []⟩
def slices_IndexFunc_SLint_int.ko1 : Ex → List CastAt × List Nat
  | .nrm => ([], [])
  | .ret => ([], [4])
  | .ext i => cond (Nat.beq i 0) ([], []) ([], [])
def slices_IndexFunc_SLint_int.G1 (f : ((Int × Unit) → Option (Bool × Unit))) (n : Nat) (R : Type) (t : slices_IndexFunc_SLint_int.sh1.T) (K : Ex → Kp → Option R) : Option R := slices_IndexFunc_SLint_int.l1 f (K (.ext 0) (SK.enc slices_IndexFunc_SLint_int.sh1e0 ((), ()))) (fun y0 => K .ret (SK.enc slices_IndexFunc_SLint_int.sh1r ((y0, ()), ()))) n t.1.1 t.1.2.2.1 t.1.2.2.2.1
def slices_IndexFunc_SLint_int.S1 (f : ((Int × Unit) → Option (Bool × Unit))) : Sum := ⟨([], [0, 1, 7, 8]), sumF slices_IndexFunc_SLint_int.sh1 (slices_IndexFunc_SLint_int.G1 f fuel), slices_IndexFunc_SLint_int.ko1⟩
theorem slices_IndexFunc_SLint_int.ok1 (f : ((Int × Unit) → Option (Bool × Unit))) (hE : EOk Tryz.prog (slices_IndexFunc_SLint_int.E)) : SumOk Tryz.prog { (slices_IndexFunc_SLint_int.E) with gv := [fnE [.one (.int .i64)] [.one (.bool)] f] } (cB (cR (cL (cR (bodyOf Tryz.f253))))) (slices_IndexFunc_SLint_int.S1 f) := by
  have hh : HintOk Tryz.prog { (slices_IndexFunc_SLint_int.E) with gv := [fnE [.one (.int .i64)] [.one (.bool)] f] } (cB (cB (cR (cL (cR (bodyOf Tryz.f253)))))) (.a) := HintOk.n1 (Q := True) (by kernel_rfl) trivial
  have h := loopS (kin := ([], [0, 1, 7, 8])) (kout := slices_IndexFunc_SLint_int.ko1) (sh := slices_IndexFunc_SLint_int.sh1) (F := slices_IndexFunc_SLint_int.G1 f) (ops_ok (hE.gv _)) (by kernel_rfl) hh (fun _ _ _ => rfl) (fun n R t K => by kernel_rfl) fuel
  exact HintOk.n1 (c := (cB (cR (cL (cR (bodyOf Tryz.f253)))))) (h := .s (slices_IndexFunc_SLint_int.S1 f)) (P := Tryz.prog) (E := { (slices_IndexFunc_SLint_int.E) with gv := [fnE [.one (.int .i64)] [.one (.bool)] f] }) (by kernel_rfl) h
theorem slices_IndexFunc_SLint_int.hok (f : ((Int × Unit) → Option (Bool × Unit))) (hE : EOk Tryz.prog (slices_IndexFunc_SLint_int.E)) : HintOk Tryz.prog { (slices_IndexFunc_SLint_int.E) with gv := [fnE [.one (.int .i64)] [.one (.bool)] f] } (bodyOf Tryz.f253) (.n (.a) (.n (.n (.a) (.b (.s (slices_IndexFunc_SLint_int.S1 f)))) (.a))) := HintOk.n1 (Q := (True) ∧ (((True) ∧ (SumOk Tryz.prog { (slices_IndexFunc_SLint_int.E) with gv := [fnE [.one (.int .i64)] [.one (.bool)] f] } (cB (cR (cL (cR (bodyOf Tryz.f253))))) (slices_IndexFunc_SLint_int.S1 f))) ∧ (True))) (by kernel_rfl) ⟨trivial, ⟨⟨trivial, (slices_IndexFunc_SLint_int.ok1 f hE)⟩, trivial⟩⟩
theorem slices_IndexFunc_SLint_int.hE : EOk Tryz.prog (slices_IndexFunc_SLint_int.E) := EOk.of ttOk (trivial)
theorem slices_IndexFunc_SLint_int.fok : FOk Tryz.prog 253 slices_IndexFunc_SLint_int.fi :=
  fokS (E := slices_IndexFunc_SLint_int.E) (wy := ⟨[[none]], [[], []], []⟩) (h := (fun gs => let f := fnP [.one (.int .i64)] [.one (.bool)] (gN 0 gs); .n (.a) (.n (.n (.a) (.b (.s (slices_IndexFunc_SLint_int.S1 f)))) (.a)))) (G := fun t g => slices_IndexFunc_SLint_int.F (fun y0 => g y0) t.1 t.2.1) (by kernel_rfl) slices_IndexFunc_SLint_int.hE Tryz.func253 (by kernel_rfl) rfl (Nat.le_refl _) (fun t => HintOk.n1 (by kernel_rfl) (slices_IndexFunc_SLint_int.hok t.2.1 slices_IndexFunc_SLint_int.hE)) (fun t g => slices_IndexFunc_SLint_int_nat g t.1 t.2.1) (fun t => by kernel_rfl)
/-! slices.ContainsFunc___int_int_ -/
def slices_ContainsFunc_SLint_int.F {R : Type} (kk : Bool → Option R) (s : List Int) (f : ((Int × Unit) → Option (Bool × Unit))) : Option R :=
  (slices_IndexFunc_SLint_int s f).bind fun r =>
  kk (decide (r ≥ (0 : Int)))
theorem slices_ContainsFunc_SLint_int.F_nat {R S : Type} (g : R → Option S) (kk : Bool → Option R) (s : List Int) (f : ((Int × Unit) → Option (Bool × Unit))) : slices_ContainsFunc_SLint_int.F (fun y0 => (kk y0).bind g) s f = (slices_ContainsFunc_SLint_int.F kk s f).bind g := by
  simp only [slices_ContainsFunc_SLint_int.F, grd_bind, cnd_bind, bnd_bind, non_bind]
def slices_ContainsFunc_SLint_int (s : List Int) (f : ((Int × Unit) → Option (Bool × Unit))) : Option Bool := slices_ContainsFunc_SLint_int.F (fun y0 => some y0) s f
theorem slices_ContainsFunc_SLint_int_nat {S : Type} (g : Bool → Option S) (s : List Int) (f : ((Int × Unit) → Option (Bool × Unit))) : slices_ContainsFunc_SLint_int.F (fun y0 => g y0) s f = (slices_ContainsFunc_SLint_int s f).bind g := slices_ContainsFunc_SLint_int.F_nat g (fun y0 => some y0) s f
def slices_ContainsFunc_SLint_int.out : Bool → CRes := fun a => ⟨encL SV.enc [.one (.bool)] (a, ()), [encL SC.enc [] (), encL SC.enc [] ()]⟩
def slices_ContainsFunc_SLint_int.ps : List PS := [.val [some ((.int .i64), false)], .fn [.one (.bool)]]
def slices_ContainsFunc_SLint_int.sA : List SA := [.v (.one (.slv [] (.int .i64))), .fn [.one (.int .i64)] [.one (.bool)]]
def slices_ContainsFunc_SLint_int.fi : FI := FIs slices_ContainsFunc_SLint_int.sA (Bool) (fun t => slices_ContainsFunc_SLint_int t.1 t.2.1) slices_ContainsFunc_SLint_int.out slices_ContainsFunc_SLint_int.ps
def slices_ContainsFunc_SLint_int.E : Env := ⟨tt, lkF [(253, slices_IndexFunc_SLint_int.fi)], 9, 0, [], []⟩
theorem slices_ContainsFunc_SLint_int.hok (f : ((Int × Unit) → Option (Bool × Unit))) (hE : EOk Tryz.prog (slices_ContainsFunc_SLint_int.E)) : HintOk Tryz.prog { (slices_ContainsFunc_SLint_int.E) with gv := [fnE [.one (.int .i64)] [.one (.bool)] f] } (bodyOf Tryz.f233) (.a) := HintOk.n1 (Q := True) (by kernel_rfl) trivial
theorem slices_ContainsFunc_SLint_int.hE : EOk Tryz.prog (slices_ContainsFunc_SLint_int.E) := EOk.of ttOk (⟨slices_IndexFunc_SLint_int.fok, trivial⟩)
theorem slices_ContainsFunc_SLint_int.fok : FOk Tryz.prog 233 slices_ContainsFunc_SLint_int.fi :=
  fokS (E := slices_ContainsFunc_SLint_int.E) (wy := ⟨[[none]], [[], []], []⟩) (h := (fun gs => let f := fnP [.one (.int .i64)] [.one (.bool)] (gN 0 gs); .a)) (G := fun t g => slices_ContainsFunc_SLint_int.F (fun y0 => g y0) t.1 t.2.1) (by kernel_rfl) slices_ContainsFunc_SLint_int.hE Tryz.func233 (by kernel_rfl) rfl (Nat.le_refl _) (fun t => HintOk.n1 (by kernel_rfl) (slices_ContainsFunc_SLint_int.hok t.2.1 slices_ContainsFunc_SLint_int.hE)) (fun t g => slices_ContainsFunc_SLint_int_nat g t.1 t.2.1) (fun t => by kernel_rfl)
/-! loop.example_g00220_impl.areNumbers$1 -/
def i_areNumbers_1.F {R : Type} (kk : Bool → Option R) (n_ : Int) : Option R :=
  (i_within n_ (0 : Int) (6 : Int)).bind fun r =>
  kk (!r)
theorem i_areNumbers_1.F_nat {R S : Type} (g : R → Option S) (kk : Bool → Option R) (n_ : Int) : i_areNumbers_1.F (fun y0 => (kk y0).bind g) n_ = (i_areNumbers_1.F kk n_).bind g := by
  simp only [i_areNumbers_1.F, grd_bind, cnd_bind, bnd_bind, non_bind]
def i_areNumbers_1 (n_ : Int) : Option Bool := i_areNumbers_1.F (fun y0 => some y0) n_
theorem i_areNumbers_1_nat {S : Type} (g : Bool → Option S) (n_ : Int) : i_areNumbers_1.F (fun y0 => g y0) n_ = (i_areNumbers_1 n_).bind g := i_areNumbers_1.F_nat g (fun y0 => some y0) n_
def i_areNumbers_1.out : Bool → CRes := fun a => ⟨encL SV.enc [.one (.bool)] (a, ()), [encL SC.enc [] ()]⟩
def i_areNumbers_1.ps : List PS := [.val [none]]
def i_areNumbers_1.sA : List SA := [.v (.one (.int .i64))]
def i_areNumbers_1.fi : FI := FIs i_areNumbers_1.sA (Bool) (fun t => i_areNumbers_1 t.1) i_areNumbers_1.out i_areNumbers_1.ps
def i_areNumbers_1.E : Env := ⟨tt, lkF [(61, i_within.fi)], 6, 0, [], []⟩
theorem i_areNumbers_1.hok (hE : EOk Tryz.prog (i_areNumbers_1.E)) : HintOk Tryz.prog i_areNumbers_1.E (bodyOf Tryz.f234) (.a) := HintOk.n1 (Q := True) (by kernel_rfl) trivial
theorem i_areNumbers_1.hE : EOk Tryz.prog (i_areNumbers_1.E) := EOk.of ttOk (⟨i_within.fok, trivial⟩)
theorem i_areNumbers_1.fok : FOk Tryz.prog 234 i_areNumbers_1.fi :=
  fokS (E := i_areNumbers_1.E) (wy := ⟨[[none]], [[]], []⟩) (h := (fun gs => .a)) (G := fun t g => i_areNumbers_1.F (fun y0 => g y0) t.1) (by kernel_rfl) i_areNumbers_1.hE Tryz.func234 (by kernel_rfl) rfl (Nat.le_refl _) (fun t => HintOk.n1 (by kernel_rfl) (i_areNumbers_1.hok i_areNumbers_1.hE)) (fun t g => i_areNumbers_1_nat g t.1) (fun t => by kernel_rfl)
/-! loop.example_g00220_impl.areNumbers -/
def i_areNumbers.F {R : Type} (kk : Bool → Option R) (list : List Int) : Option R :=
  (slices_ContainsFunc_SLint_int list (fun t => (i_areNumbers_1 t.1).bind fun a => some (a, ()))).bind fun r =>
  kk (!r)
theorem i_areNumbers.F_nat {R S : Type} (g : R → Option S) (kk : Bool → Option R) (list : List Int) : i_areNumbers.F (fun y0 => (kk y0).bind g) list = (i_areNumbers.F kk list).bind g := by
  simp only [i_areNumbers.F, grd_bind, cnd_bind, bnd_bind, non_bind]
def i_areNumbers (list : List Int) : Option Bool := i_areNumbers.F (fun y0 => some y0) list
theorem i_areNumbers_nat {S : Type} (g : Bool → Option S) (list : List Int) : i_areNumbers.F (fun y0 => g y0) list = (i_areNumbers list).bind g := i_areNumbers.F_nat g (fun y0 => some y0) list
def i_areNumbers.out : Bool → CRes := fun a => ⟨encL SV.enc [.one (.bool)] (a, ()), [encL SC.enc [] ()]⟩
def i_areNumbers.ps : List PS := [.val [some ((.int .i64), false)]]
def i_areNumbers.sA : List SA := [.v (.one (.slv [] (.int .i64)))]
def i_areNumbers.fi : FI := FIs i_areNumbers.sA (Bool) (fun t => i_areNumbers t.1) i_areNumbers.out i_areNumbers.ps
def i_areNumbers.E : Env := ⟨tt, lkF [(233, slices_ContainsFunc_SLint_int.fi), (234, i_areNumbers_1.fi)], 6, 0, [], []⟩
theorem i_areNumbers.hok (hE : EOk Tryz.prog (i_areNumbers.E)) : HintOk Tryz.prog i_areNumbers.E (bodyOf Tryz.f210) (.a) := HintOk.n1 (Q := True) (by kernel_rfl) trivial
theorem i_areNumbers.hE : EOk Tryz.prog (i_areNumbers.E) := EOk.of ttOk (⟨slices_ContainsFunc_SLint_int.fok, ⟨i_areNumbers_1.fok, trivial⟩⟩)
theorem i_areNumbers.fok : FOk Tryz.prog 210 i_areNumbers.fi :=
  fokS (E := i_areNumbers.E) (wy := ⟨[[none]], [[]], []⟩) (h := (fun gs => .a)) (G := fun t g => i_areNumbers.F (fun y0 => g y0) t.1) (by kernel_rfl) i_areNumbers.hE Tryz.func210 (by kernel_rfl) rfl (Nat.le_refl _) (fun t => HintOk.n1 (by kernel_rfl) (i_areNumbers.hok i_areNumbers.hE)) (fun t g => i_areNumbers_nat g t.1) (fun t => by kernel_rfl)
/-! loop.example_g00220_impl.areRising -/
def i_areRising.l1 {R : Type} (kke0 : Option R) (kkr : Bool → Option R) : Nat → List Int → Int → Option R
  | 0, _, _ => none
  | n + 1, list, i =>
    cond (decide (i < (List.length list : Int))) (
      grd (gIx (IntKind.wrap .i64 (i - (1 : Int))) (List.length list)) <|
      grd (gIx i (List.length list)) <|
      cond (decide ((rdE (.int .i64 : Kd) list (Int.toNat (IntKind.wrap .i64 (i - (1 : Int))))) ≥ (rdE (.int .i64 : Kd) list (Int.toNat i)))) (kkr false) (i_areRising.l1 kke0 kkr n list (IntKind.wrap .i64 (i + (1 : Int))))) (kke0)
theorem i_areRising.l1_nat {R S : Type} (g : R → Option S) (kke0 : Option R) (kkr : Bool → Option R) : ∀ (n : Nat) (list : List Int) (i : Int), i_areRising.l1 (kke0.bind g) (fun y0 => (kkr y0).bind g) n list i = (i_areRising.l1 kke0 kkr n list i).bind g := by
  intro n
  induction n with
  | zero => intros; rfl
  | succ n ih => intros; simp only [i_areRising.l1, grd_bind, cnd_bind, bnd_bind, non_bind, ih]
def i_areRising.F {R : Type} (kk : Bool → Option R) (list : List Int) : Option R :=
  i_areRising.l1 (kk true) (fun b => kk b) fuel list (1 : Int)
theorem i_areRising.F_nat {R S : Type} (g : R → Option S) (kk : Bool → Option R) (list : List Int) : i_areRising.F (fun y0 => (kk y0).bind g) list = (i_areRising.F kk list).bind g := by
  simp only [i_areRising.F, grd_bind, cnd_bind, bnd_bind, non_bind, ← i_areRising.l1_nat]
def i_areRising (list : List Int) : Option Bool := i_areRising.F (fun y0 => some y0) list
theorem i_areRising_nat {S : Type} (g : Bool → Option S) (list : List Int) : i_areRising.F (fun y0 => g y0) list = (i_areRising list).bind g := i_areRising.F_nat g (fun y0 => some y0) list
def i_areRising.out : Bool → CRes := fun a => ⟨encL SV.enc [.one (.bool)] (a, ()), [encL SC.enc [] ()]⟩
def i_areRising.ps : List PS := [.val [some ((.int .i64), false)]]
def i_areRising.sA : List SA := [.v (.one (.slv [] (.int .i64)))]
def i_areRising.fi : FI := FIs i_areRising.sA (Bool) (fun t => i_areRising t.1) i_areRising.out i_areRising.ps
def i_areRising.E : Env := ⟨tt, lkF [], 20, 0, [], []⟩
def i_areRising.sh1 : SK := ⟨[.v (.one (.slv [1] (.int .i64))), .v (.one (.int .i64))], []⟩
def i_areRising.sh1e0 : SK := ⟨[], []⟩
def i_areRising.sh1r : SK := ⟨[.v (.one (.bool))], []⟩
def i_areRising.ko1 : Ex → List CastAt × List Nat
  | .nrm => ([], [])
  | .ret => ([], [2])
  | .ext i => cond (Nat.beq i 0) ([], []) ([], [])
def i_areRising.G1 (n : Nat) (R : Type) (t : i_areRising.sh1.T) (K : Ex → Kp → Option R) : Option R := i_areRising.l1 (K (.ext 0) (SK.enc i_areRising.sh1e0 ((), ()))) (fun y0 => K .ret (SK.enc i_areRising.sh1r ((y0, ()), ()))) n t.1.1 t.1.2.1
def i_areRising.S1 : Sum := ⟨([], [0, 3]), sumF i_areRising.sh1 (i_areRising.G1 fuel), i_areRising.ko1⟩
theorem i_areRising.ok1 (hE : EOk Tryz.prog (i_areRising.E)) : SumOk Tryz.prog i_areRising.E (cB (cR (cL (cR (bodyOf Tryz.f211))))) (i_areRising.S1) := by
  have hh : HintOk Tryz.prog i_areRising.E (cB (cB (cR (cL (cR (bodyOf Tryz.f211)))))) (.a) := HintOk.n1 (Q := True) (by kernel_rfl) trivial
  have h := loopS (kin := ([], [0, 3])) (kout := i_areRising.ko1) (sh := i_areRising.sh1) (F := i_areRising.G1) (ops_ok (hE.gv _)) (by kernel_rfl) hh (fun _ _ _ => rfl) (fun n R t K => by kernel_rfl) fuel
  exact HintOk.n1 (c := (cB (cR (cL (cR (bodyOf Tryz.f211)))))) (h := .s (i_areRising.S1)) (P := Tryz.prog) (E := i_areRising.E) (by kernel_rfl) h
theorem i_areRising.hok (hE : EOk Tryz.prog (i_areRising.E)) : HintOk Tryz.prog i_areRising.E (bodyOf Tryz.f211) (.n (.a) (.n (.n (.a) (.b (.s (i_areRising.S1)))) (.a))) := HintOk.n1 (Q := (True) ∧ (((True) ∧ (SumOk Tryz.prog i_areRising.E (cB (cR (cL (cR (bodyOf Tryz.f211))))) (i_areRising.S1))) ∧ (True))) (by kernel_rfl) ⟨trivial, ⟨⟨trivial, (i_areRising.ok1 hE)⟩, trivial⟩⟩
theorem i_areRising.hE : EOk Tryz.prog (i_areRising.E) := EOk.of ttOk (trivial)
theorem i_areRising.fok : FOk Tryz.prog 211 i_areRising.fi :=
  fokS (E := i_areRising.E) (wy := ⟨[[none]], [[]], []⟩) (h := (fun gs => .n (.a) (.n (.n (.a) (.b (.s (i_areRising.S1)))) (.a)))) (G := fun t g => i_areRising.F (fun y0 => g y0) t.1) (by kernel_rfl) i_areRising.hE Tryz.func211 (by kernel_rfl) rfl (Nat.le_refl _) (fun t => HintOk.n1 (by kernel_rfl) (i_areRising.hok i_areRising.hE)) (fun t g => i_areRising_nat g t.1) (fun t => by kernel_rfl)
/-! loop.example_g00220_impl.membersOK -/
def i_membersOK.F {R : Type} (kk : Bool → Option R) (members : List Int) : Option R :=
  cond (decide ((List.length members : Int) > (0 : Int))) (
    (i_areNumbers members).bind fun r =>
    cond (r) (
      (i_areRising members).bind fun r1 =>
      kk r1) (kk false)) (kk false)
theorem i_membersOK.F_nat {R S : Type} (g : R → Option S) (kk : Bool → Option R) (members : List Int) : i_membersOK.F (fun y0 => (kk y0).bind g) members = (i_membersOK.F kk members).bind g := by
  simp only [i_membersOK.F, grd_bind, cnd_bind, bnd_bind, non_bind]
def i_membersOK (members : List Int) : Option Bool := i_membersOK.F (fun y0 => some y0) members
theorem i_membersOK_nat {S : Type} (g : Bool → Option S) (members : List Int) : i_membersOK.F (fun y0 => g y0) members = (i_membersOK members).bind g := i_membersOK.F_nat g (fun y0 => some y0) members
def i_membersOK.out : Bool → CRes := fun a => ⟨encL SV.enc [.one (.bool)] (a, ()), [encL SC.enc [] ()]⟩
def i_membersOK.ps : List PS := [.val [some ((.int .i64), false)]]
def i_membersOK.sA : List SA := [.v (.one (.slv [] (.int .i64)))]
def i_membersOK.fi : FI := FIs i_membersOK.sA (Bool) (fun t => i_membersOK t.1) i_membersOK.out i_membersOK.ps
def i_membersOK.E : Env := ⟨tt, lkF [(210, i_areNumbers.fi), (211, i_areRising.fi)], 14, 0, [], []⟩
theorem i_membersOK.hok (hE : EOk Tryz.prog (i_membersOK.E)) : HintOk Tryz.prog i_membersOK.E (bodyOf Tryz.f187) (.a) := HintOk.n1 (Q := True) (by kernel_rfl) trivial
theorem i_membersOK.hE : EOk Tryz.prog (i_membersOK.E) := EOk.of ttOk (⟨i_areNumbers.fok, ⟨i_areRising.fok, trivial⟩⟩)
theorem i_membersOK.fok : FOk Tryz.prog 187 i_membersOK.fi :=
  fokS (E := i_membersOK.E) (wy := ⟨[[none]], [[]], []⟩) (h := (fun gs => .a)) (G := fun t g => i_membersOK.F (fun y0 => g y0) t.1) (by kernel_rfl) i_membersOK.hE Tryz.func187 (by kernel_rfl) rfl (Nat.le_refl _) (fun t => HintOk.n1 (by kernel_rfl) (i_membersOK.hok i_membersOK.hE)) (fun t g => i_membersOK_nat g t.1) (fun t => by kernel_rfl)
/-! loop.example_g00220_impl.readMembers -/
def i_readMembers.l1 {R : Type} (kke0 : List Int → Option R) : Nat → ByteArray → Int → Int → List Int → Option R
  | 0, _, _, _, _ => none
  | n + 1, data, i, i1, out =>
    cond (decide (i1 < i)) (
      grd (gIx i1 (ByteArray.size data)) <|
      grd (gRm (((List.length out) + (List.length [IntKind.wrap .i64 (byteAt data i1)])) * 8)) <|
      i_readMembers.l1 kke0 n data i (IntKind.wrap .i64 (i1 + (1 : Int))) (out ++ [IntKind.wrap .i64 (byteAt data i1)])) (kke0 out)
theorem i_readMembers.l1_nat {R S : Type} (g : R → Option S) (kke0 : List Int → Option R) : ∀ (n : Nat) (data : ByteArray) (i : Int) (i1 : Int) (out : List Int), i_readMembers.l1 (fun y0 => (kke0 y0).bind g) n data i i1 out = (i_readMembers.l1 kke0 n data i i1 out).bind g := by
  intro n
  induction n with
  | zero => intros; rfl
  | succ n ih => intros; simp only [i_readMembers.l1, grd_bind, cnd_bind, bnd_bind, non_bind, ih]
def i_readMembers.F {R : Type} (kk : List Int → Bool → Option R) (data : ByteArray) : Option R :=
  i_readMembers.l1 (fun out =>
    (i_membersOK out).bind fun r =>
    kk out r) fuel data (ByteArray.size data : Int) (0 : Int) ([] : List Int)
theorem i_readMembers.F_nat {R S : Type} (g : R → Option S) (kk : List Int → Bool → Option R) (data : ByteArray) : i_readMembers.F (fun y0 y1 => (kk y0 y1).bind g) data = (i_readMembers.F kk data).bind g := by
  simp only [i_readMembers.F, grd_bind, cnd_bind, bnd_bind, non_bind, ← i_readMembers.l1_nat]
def i_readMembers (data : ByteArray) : Option (List Int × Bool) := i_readMembers.F (fun y0 y1 => some (y0, y1)) data
theorem i_readMembers_nat {S : Type} (g : (List Int × Bool) → Option S) (data : ByteArray) : i_readMembers.F (fun y0 y1 => g (y0, y1)) data = (i_readMembers data).bind g := i_readMembers.F_nat g (fun y0 y1 => some (y0, y1)) data
def i_readMembers.out : (List Int × Bool) → CRes := fun a => ⟨encL SV.enc [.one (.own [] (.int .i64) true), .one (.bool)] (a.1, a.2, ()), [encL SC.enc [] ()]⟩
def i_readMembers.ps : List PS := [.val [none]]
def i_readMembers.sA : List SA := [.v (.one (.str))]
def i_readMembers.fi : FI := FIs i_readMembers.sA (List Int × Bool) (fun t => i_readMembers t.1) i_readMembers.out i_readMembers.ps
def i_readMembers.E : Env := ⟨tt, lkF [(187, i_membersOK.fi)], 23, 0, [], []⟩
def i_readMembers.sh1 : SK := ⟨[.v (.one (.str)), .v (.one (.slo 0)), .v (.one (.int .i64)), .v (.one (.int .i64))], [.arr (.int .i64) [] true]⟩
def i_readMembers.sh1e0 : SK := ⟨[.v (.one (.slo 0))], [.arr (.int .i64) [] true]⟩
def i_readMembers.ko1 : Ex → List CastAt × List Nat
  | .nrm => ([], [])
  | .ret => ([], [])
  | .ext i => cond (Nat.beq i 0) ([], [4]) ([], [])
def i_readMembers.G1 (n : Nat) (R : Type) (t : i_readMembers.sh1.T) (K : Ex → Kp → Option R) : Option R := i_readMembers.l1 (fun y0 => K (.ext 0) (SK.enc i_readMembers.sh1e0 (((), ()), (y0, ())))) n t.1.1 t.1.2.2.1 t.1.2.2.2.1 t.2.1
def i_readMembers.S1 : Sum := ⟨([], [0, 4, 8, 9]), sumF i_readMembers.sh1 (i_readMembers.G1 fuel), i_readMembers.ko1⟩
theorem i_readMembers.ok1 (hE : EOk Tryz.prog (i_readMembers.E)) : SumOk Tryz.prog i_readMembers.E (cB (cR (cL (cR (cR (bodyOf Tryz.f148)))))) (i_readMembers.S1) := by
  have hh : HintOk Tryz.prog i_readMembers.E (cB (cB (cR (cL (cR (cR (bodyOf Tryz.f148))))))) (.a) := HintOk.n1 (Q := True) (by kernel_rfl) trivial
  have h := loopS (kin := ([], [0, 4, 8, 9])) (kout := i_readMembers.ko1) (sh := i_readMembers.sh1) (F := i_readMembers.G1) (ops_ok (hE.gv _)) (by kernel_rfl) hh (fun _ _ _ => rfl) (fun n R t K => by kernel_rfl) fuel
  exact HintOk.n1 (c := (cB (cR (cL (cR (cR (bodyOf Tryz.f148))))))) (h := .s (i_readMembers.S1)) (P := Tryz.prog) (E := i_readMembers.E) (by kernel_rfl) h
theorem i_readMembers.hok (hE : EOk Tryz.prog (i_readMembers.E)) : HintOk Tryz.prog i_readMembers.E (bodyOf Tryz.f148) (.n (.a) (.n (.a) (.n (.n (.a) (.b (.s (i_readMembers.S1)))) (.a)))) := HintOk.n1 (Q := (True) ∧ ((True) ∧ (((True) ∧ (SumOk Tryz.prog i_readMembers.E (cB (cR (cL (cR (cR (bodyOf Tryz.f148)))))) (i_readMembers.S1))) ∧ (True)))) (by kernel_rfl) ⟨trivial, ⟨trivial, ⟨⟨trivial, (i_readMembers.ok1 hE)⟩, trivial⟩⟩⟩
theorem i_readMembers.hE : EOk Tryz.prog (i_readMembers.E) := EOk.of ttOk (⟨i_membersOK.fok, trivial⟩)
theorem i_readMembers.fok : FOk Tryz.prog 148 i_readMembers.fi :=
  fokS (E := i_readMembers.E) (wy := ⟨[[some ((.int .i64), true)], [none]], [[]], []⟩) (h := (fun gs => .n (.a) (.n (.a) (.n (.n (.a) (.b (.s (i_readMembers.S1)))) (.a))))) (G := fun t g => i_readMembers.F (fun y0 y1 => g (y0, y1)) t.1) (by kernel_rfl) i_readMembers.hE Tryz.func148 (by kernel_rfl) rfl (Nat.le_refl _) (fun t => HintOk.n1 (by kernel_rfl) (i_readMembers.hok i_readMembers.hE)) (fun t g => i_readMembers_nat g t.1) (fun t => by kernel_rfl)
/-! loop.example_g00220_impl.entryOK -/
def i_entryOK.F {R : Type} (kk : Bool → Option R) (e_Term : Int) (e_Kind : Int) (e_Data : ByteArray) : Option R :=
  (i_within e_Term (1 : Int) (1000000 : Int)).bind fun r =>
  cond (!r) (kk false) (
    cond (e_Kind == (0 : Int)) (kk (sEq e_Data ByteArray.empty)) (
      cond (e_Kind == (1 : Int)) (
        (i_within (ByteArray.size e_Data : Int) (1 : Int) (100 : Int)).bind fun r1 =>
        kk r1) (
        cond (e_Kind == (2 : Int)) (
          (i_readMembers e_Data).bind fun r2 =>
          kk r2.2) (kk false))))
theorem i_entryOK.F_nat {R S : Type} (g : R → Option S) (kk : Bool → Option R) (e_Term : Int) (e_Kind : Int) (e_Data : ByteArray) : i_entryOK.F (fun y0 => (kk y0).bind g) e_Term e_Kind e_Data = (i_entryOK.F kk e_Term e_Kind e_Data).bind g := by
  simp only [i_entryOK.F, grd_bind, cnd_bind, bnd_bind, non_bind]
def i_entryOK (e_Term : Int) (e_Kind : Int) (e_Data : ByteArray) : Option Bool := i_entryOK.F (fun y0 => some y0) e_Term e_Kind e_Data
theorem i_entryOK_nat {S : Type} (g : Bool → Option S) (e_Term : Int) (e_Kind : Int) (e_Data : ByteArray) : i_entryOK.F (fun y0 => g y0) e_Term e_Kind e_Data = (i_entryOK e_Term e_Kind e_Data).bind g := i_entryOK.F_nat g (fun y0 => some y0) e_Term e_Kind e_Data
def i_entryOK.out : Bool → CRes := fun a => ⟨encL SV.enc [.one (.bool)] (a, ()), [encL SC.enc [] ()]⟩
def i_entryOK.ps : List PS := [.val [none, none, none]]
def i_entryOK.sA : List SA := [.v (.agg [.int .i64, .int .i64, .str])]
def i_entryOK.fi : FI := FIs i_entryOK.sA (Bool) (fun t => i_entryOK t.1.1 t.1.2.1 t.1.2.2.1) i_entryOK.out i_entryOK.ps
def i_entryOK.E : Env := ⟨tt, lkF [(61, i_within.fi), (148, i_readMembers.fi)], 31, 0, [], []⟩
theorem i_entryOK.hok (hE : EOk Tryz.prog (i_entryOK.E)) : HintOk Tryz.prog i_entryOK.E (bodyOf Tryz.f107) (.a) := HintOk.n1 (Q := True) (by kernel_rfl) trivial
theorem i_entryOK.hE : EOk Tryz.prog (i_entryOK.E) := EOk.of ttOk (⟨i_within.fok, ⟨i_readMembers.fok, trivial⟩⟩)
theorem i_entryOK.fok : FOk Tryz.prog 107 i_entryOK.fi :=
  fokS (E := i_entryOK.E) (wy := ⟨[[none]], [[]], []⟩) (h := (fun gs => .a)) (G := fun t g => i_entryOK.F (fun y0 => g y0) t.1.1 t.1.2.1 t.1.2.2.1) (by kernel_rfl) i_entryOK.hE Tryz.func107 (by kernel_rfl) rfl (Nat.le_refl _) (fun t => HintOk.n1 (by kernel_rfl) (i_entryOK.hok i_entryOK.hE)) (fun t g => i_entryOK_nat g t.1.1 t.1.2.1 t.1.2.2.1) (fun t => by kernel_rfl)
/-! loop.example_g00220_impl.logOK -/
def i_logOK.l1 {R : Type} (kke0 : List (El kEntry) → Option R) (kkr : Bool → Option R) : Nat → List (El kEntry) → Int → List (El kEntry) → Int → Int → Option R
  | 0, _, _, _, _, _ => none
  | n + 1, log, term, l, i, i1 =>
    cond (decide (i1 < i)) (
      grd (gIx i1 (List.length l)) <|
      (i_entryOK ((rdE kEntry l (Int.toNat i1)).1) ((rdE kEntry l (Int.toNat i1)).2.1) ((rdE kEntry l (Int.toNat i1)).2.2)).bind fun r =>
      cond (!r) (kkr false) (
        cond (decide ((rdE kEntry l (Int.toNat i1)).1 > term)) (kkr false) (
          cond (decide (i1 > (0 : Int))) (
            grd (gIx (IntKind.wrap .i64 (i1 - (1 : Int))) (List.length log)) <|
            cond (decide ((rdE kEntry log (Int.toNat (IntKind.wrap .i64 (i1 - (1 : Int))))).1 > (rdE kEntry l (Int.toNat i1)).1)) (kkr false) (i_logOK.l1 kke0 kkr n log term l i (IntKind.wrap .i64 (i1 + (1 : Int))))) (i_logOK.l1 kke0 kkr n log term l i (IntKind.wrap .i64 (i1 + (1 : Int))))))) (kke0 log)
theorem i_logOK.l1_nat {R S : Type} (g : R → Option S) (kke0 : List (El kEntry) → Option R) (kkr : Bool → Option R) : ∀ (n : Nat) (log : List (El kEntry)) (term : Int) (l : List (El kEntry)) (i : Int) (i1 : Int), i_logOK.l1 (fun y0 => (kke0 y0).bind g) (fun y0 => (kkr y0).bind g) n log term l i i1 = (i_logOK.l1 kke0 kkr n log term l i i1).bind g := by
  intro n
  induction n with
  | zero => intros; rfl
  | succ n ih => intros; simp only [i_logOK.l1, grd_bind, cnd_bind, bnd_bind, non_bind, ih]
def i_logOK.F {R : Type} (kk : Bool → Option R) (log : List (El kEntry)) (term : Int) : Option R :=
  i_logOK.l1 (fun log1 => kk (decide ((List.length log1 : Int) ≤ (60 : Int)))) (fun b => kk b) fuel log term log (List.length log : Int) (0 : Int)
theorem i_logOK.F_nat {R S : Type} (g : R → Option S) (kk : Bool → Option R) (log : List (El kEntry)) (term : Int) : i_logOK.F (fun y0 => (kk y0).bind g) log term = (i_logOK.F kk log term).bind g := by
  simp only [i_logOK.F, grd_bind, cnd_bind, bnd_bind, non_bind, ← i_logOK.l1_nat]
def i_logOK (log : List (El kEntry)) (term : Int) : Option Bool := i_logOK.F (fun y0 => some y0) log term
theorem i_logOK_nat {S : Type} (g : Bool → Option S) (log : List (El kEntry)) (term : Int) : i_logOK.F (fun y0 => g y0) log term = (i_logOK log term).bind g := i_logOK.F_nat g (fun y0 => some y0) log term
def i_logOK.out : Bool → CRes := fun a => ⟨encL SV.enc [.one (.bool)] (a, ()), [encL SC.enc [] (), encL SC.enc [] ()]⟩
def i_logOK.ps : List PS := [.val [some (kEntry, false)], .val [none]]
def i_logOK.sA : List SA := [.v (.one (.slv [] kEntry)), .v (.one (.int .i64))]
def i_logOK.fi : FI := FIs i_logOK.sA (Bool) (fun t => i_logOK t.1 t.2.1) i_logOK.out i_logOK.ps
def i_logOK.E : Env := ⟨tt, lkF [(107, i_entryOK.fi)], 42, 0, [], []⟩
def i_logOK.sh1 : SK := ⟨[.v (.one (.slv [1] kEntry)), .v (.one (.int .i64)), .v (.one (.slv [1] kEntry)), .v (.one (.int .i64)), .v (.one (.int .i64))], []⟩
def i_logOK.sh1e0 : SK := ⟨[.v (.one (.slv [1] kEntry))], []⟩
def i_logOK.sh1r : SK := ⟨[.v (.one (.bool))], []⟩
def i_logOK.ko1 : Ex → List CastAt × List Nat
  | .nrm => ([], [])
  | .ret => ([], [4])
  | .ext i => cond (Nat.beq i 0) ([], [0]) ([], [])
def i_logOK.G1 (n : Nat) (R : Type) (t : i_logOK.sh1.T) (K : Ex → Kp → Option R) : Option R := i_logOK.l1 (fun y0 => K (.ext 0) (SK.enc i_logOK.sh1e0 ((y0, ()), ()))) (fun y0 => K .ret (SK.enc i_logOK.sh1r ((y0, ()), ()))) n t.1.1 t.1.2.1 t.1.2.2.1 t.1.2.2.2.1 t.1.2.2.2.2.1
def i_logOK.S1 : Sum := ⟨([], [0, 1, 7, 8, 9]), sumF i_logOK.sh1 (i_logOK.G1 fuel), i_logOK.ko1⟩
theorem i_logOK.ok1 (hE : EOk Tryz.prog (i_logOK.E)) : SumOk Tryz.prog i_logOK.E (cB (cR (cL (cR (bodyOf Tryz.f62))))) (i_logOK.S1) := by
  have hh : HintOk Tryz.prog i_logOK.E (cB (cB (cR (cL (cR (bodyOf Tryz.f62)))))) (.a) := HintOk.n1 (Q := True) (by kernel_rfl) trivial
  have h := loopS (kin := ([], [0, 1, 7, 8, 9])) (kout := i_logOK.ko1) (sh := i_logOK.sh1) (F := i_logOK.G1) (ops_ok (hE.gv _)) (by kernel_rfl) hh (fun _ _ _ => rfl) (fun n R t K => by kernel_rfl) fuel
  exact HintOk.n1 (c := (cB (cR (cL (cR (bodyOf Tryz.f62)))))) (h := .s (i_logOK.S1)) (P := Tryz.prog) (E := i_logOK.E) (by kernel_rfl) h
theorem i_logOK.hok (hE : EOk Tryz.prog (i_logOK.E)) : HintOk Tryz.prog i_logOK.E (bodyOf Tryz.f62) (.n (.a) (.n (.n (.a) (.b (.s (i_logOK.S1)))) (.a))) := HintOk.n1 (Q := (True) ∧ (((True) ∧ (SumOk Tryz.prog i_logOK.E (cB (cR (cL (cR (bodyOf Tryz.f62))))) (i_logOK.S1))) ∧ (True))) (by kernel_rfl) ⟨trivial, ⟨⟨trivial, (i_logOK.ok1 hE)⟩, trivial⟩⟩
theorem i_logOK.hE : EOk Tryz.prog (i_logOK.E) := EOk.of ttOk (⟨i_entryOK.fok, trivial⟩)
theorem i_logOK.fok : FOk Tryz.prog 62 i_logOK.fi :=
  fokS (E := i_logOK.E) (wy := ⟨[[none]], [[], []], []⟩) (h := (fun gs => .n (.a) (.n (.n (.a) (.b (.s (i_logOK.S1)))) (.a)))) (G := fun t g => i_logOK.F (fun y0 => g y0) t.1 t.2.1) (by kernel_rfl) i_logOK.hE Tryz.func62 (by kernel_rfl) rfl (Nat.le_refl _) (fun t => HintOk.n1 (by kernel_rfl) (i_logOK.hok i_logOK.hE)) (fun t g => i_logOK_nat g t.1 t.2.1) (fun t => by kernel_rfl)
/-! loop.example_g00220_impl.StateOK -/
def i_StateOK.F {R : Type} (kk : Bool → Option R) (s_Term : Int) (s_Vote : Int) (s_Log : List (El kEntry)) : Option R :=
  (i_within s_Term (0 : Int) (1000000 : Int)).bind fun r =>
  cond (r) (
    (i_within s_Vote (-1 : Int) (6 : Int)).bind fun r1 =>
    cond (r1) (
      (i_logOK s_Log s_Term).bind fun r2 =>
      kk r2) (kk false)) (kk false)
theorem i_StateOK.F_nat {R S : Type} (g : R → Option S) (kk : Bool → Option R) (s_Term : Int) (s_Vote : Int) (s_Log : List (El kEntry)) : i_StateOK.F (fun y0 => (kk y0).bind g) s_Term s_Vote s_Log = (i_StateOK.F kk s_Term s_Vote s_Log).bind g := by
  simp only [i_StateOK.F, grd_bind, cnd_bind, bnd_bind, non_bind]
def i_StateOK (s_Term : Int) (s_Vote : Int) (s_Log : List (El kEntry)) : Option Bool := i_StateOK.F (fun y0 => some y0) s_Term s_Vote s_Log
theorem i_StateOK_nat {S : Type} (g : Bool → Option S) (s_Term : Int) (s_Vote : Int) (s_Log : List (El kEntry)) : i_StateOK.F (fun y0 => g y0) s_Term s_Vote s_Log = (i_StateOK s_Term s_Vote s_Log).bind g := i_StateOK.F_nat g (fun y0 => some y0) s_Term s_Vote s_Log
def i_StateOK.out : Bool → CRes := fun a => ⟨encL SV.enc [.one (.bool)] (a, ()), [encL SC.enc [] ()]⟩
def i_StateOK.ps : List PS := [.val [none, none, some (kEntry, false)]]
def i_StateOK.sA : List SA := [.v (.agg [.int .i64, .int .i64, .slv [] kEntry])]
def i_StateOK.fi : FI := FIs i_StateOK.sA (Bool) (fun t => i_StateOK t.1.1 t.1.2.1 t.1.2.2.1) i_StateOK.out i_StateOK.ps
def i_StateOK.E : Env := ⟨tt, lkF [(61, i_within.fi), (62, i_logOK.fi)], 18, 0, [], []⟩
theorem i_StateOK.hok (hE : EOk Tryz.prog (i_StateOK.E)) : HintOk Tryz.prog i_StateOK.E (bodyOf Tryz.f23) (.a) := HintOk.n1 (Q := True) (by kernel_rfl) trivial
theorem i_StateOK.hE : EOk Tryz.prog (i_StateOK.E) := EOk.of ttOk (⟨i_within.fok, ⟨i_logOK.fok, trivial⟩⟩)
theorem i_StateOK.fok : FOk Tryz.prog 23 i_StateOK.fi :=
  fokS (E := i_StateOK.E) (wy := ⟨[[none]], [[]], []⟩) (h := (fun gs => .a)) (G := fun t g => i_StateOK.F (fun y0 => g y0) t.1.1 t.1.2.1 t.1.2.2.1) (by kernel_rfl) i_StateOK.hE Tryz.func23 (by kernel_rfl) rfl (Nat.le_refl _) (fun t => HintOk.n1 (by kernel_rfl) (i_StateOK.hok i_StateOK.hE)) (fun t g => i_StateOK_nat g t.1.1 t.1.2.1 t.1.2.2.1) (fun t => by kernel_rfl)
/-! slices.IndexFunc___string_string_ -/
def slices_IndexFunc_SLstring_string.l1 {R : Type} (f : ((ByteArray × Unit) → Option (Bool × Unit))) (kke0 : Option R) (kkr : Int → Option R) : Nat → List ByteArray → Int → Int → Option R
  | 0, _, _, _ => none
  | n + 1, s, i, i1 =>
    cond (decide (i1 < i)) (
      grd (gIx i1 (List.length s)) <|
      (f (rdE (.str : Kd) s (Int.toNat i1), ())).bind fun r =>
      cond (r.1) (kkr i1) (slices_IndexFunc_SLstring_string.l1 f kke0 kkr n s i (IntKind.wrap .i64 (i1 + (1 : Int))))) (kke0)
theorem slices_IndexFunc_SLstring_string.l1_nat {R S : Type} (g : R → Option S) (f : ((ByteArray × Unit) → Option (Bool × Unit))) (kke0 : Option R) (kkr : Int → Option R) : ∀ (n : Nat) (s : List ByteArray) (i : Int) (i1 : Int), slices_IndexFunc_SLstring_string.l1 f (kke0.bind g) (fun y0 => (kkr y0).bind g) n s i i1 = (slices_IndexFunc_SLstring_string.l1 f kke0 kkr n s i i1).bind g := by
  intro n
  induction n with
  | zero => intros; rfl
  | succ n ih => intros; simp only [slices_IndexFunc_SLstring_string.l1, grd_bind, cnd_bind, bnd_bind, non_bind, ih]
def slices_IndexFunc_SLstring_string.F {R : Type} (kk : Int → Option R) (s : List ByteArray) (f : ((ByteArray × Unit) → Option (Bool × Unit))) : Option R :=
  slices_IndexFunc_SLstring_string.l1 f (kk (-1 : Int)) (fun i => kk i) fuel s (List.length s : Int) (0 : Int)
theorem slices_IndexFunc_SLstring_string.F_nat {R S : Type} (g : R → Option S) (kk : Int → Option R) (s : List ByteArray) (f : ((ByteArray × Unit) → Option (Bool × Unit))) : slices_IndexFunc_SLstring_string.F (fun y0 => (kk y0).bind g) s f = (slices_IndexFunc_SLstring_string.F kk s f).bind g := by
  simp only [slices_IndexFunc_SLstring_string.F, grd_bind, cnd_bind, bnd_bind, non_bind, ← slices_IndexFunc_SLstring_string.l1_nat]
def slices_IndexFunc_SLstring_string (s : List ByteArray) (f : ((ByteArray × Unit) → Option (Bool × Unit))) : Option Int := slices_IndexFunc_SLstring_string.F (fun y0 => some y0) s f
theorem slices_IndexFunc_SLstring_string_nat {S : Type} (g : Int → Option S) (s : List ByteArray) (f : ((ByteArray × Unit) → Option (Bool × Unit))) : slices_IndexFunc_SLstring_string.F (fun y0 => g y0) s f = (slices_IndexFunc_SLstring_string s f).bind g := slices_IndexFunc_SLstring_string.F_nat g (fun y0 => some y0) s f
def slices_IndexFunc_SLstring_string.out : Int → CRes := fun a => ⟨encL SV.enc [.one (.int .i64)] (a, ()), [encL SC.enc [] (), encL SC.enc [] ()]⟩
def slices_IndexFunc_SLstring_string.ps : List PS := [.val [some (.str, false)], .fn [.one (.bool)]]
def slices_IndexFunc_SLstring_string.sA : List SA := [.v (.one (.slv [] .str)), .fn [.one (.str)] [.one (.bool)]]
def slices_IndexFunc_SLstring_string.fi : FI := FIs slices_IndexFunc_SLstring_string.sA (Int) (fun t => slices_IndexFunc_SLstring_string t.1 t.2.1) slices_IndexFunc_SLstring_string.out slices_IndexFunc_SLstring_string.ps
def slices_IndexFunc_SLstring_string.E : Env := ⟨tt, lkF [], 19, 0, [], []⟩
def slices_IndexFunc_SLstring_string.sh1 : SK := ⟨[.v (.one (.slv [1] .str)), .v (.one (.fv 0)), .v (.one (.int .i64)), .v (.one (.int .i64))], []⟩
def slices_IndexFunc_SLstring_string.sh1e0 : SK := ⟨[], []⟩
def slices_IndexFunc_SLstring_string.sh1r : SK := ⟨[.v (.one (.int .i64))], []⟩
def slices_IndexFunc_SLstring_string.ko1 : Ex → List CastAt × List Nat
  | .nrm => ([], [])
  | .ret => ([], [4])
  | .ext i => cond (Nat.beq i 0) ([], []) ([], [])
def slices_IndexFunc_SLstring_string.G1 (f : ((ByteArray × Unit) → Option (Bool × Unit))) (n : Nat) (R : Type) (t : slices_IndexFunc_SLstring_string.sh1.T) (K : Ex → Kp → Option R) : Option R := slices_IndexFunc_SLstring_string.l1 f (K (.ext 0) (SK.enc slices_IndexFunc_SLstring_string.sh1e0 ((), ()))) (fun y0 => K .ret (SK.enc slices_IndexFunc_SLstring_string.sh1r ((y0, ()), ()))) n t.1.1 t.1.2.2.1 t.1.2.2.2.1
def slices_IndexFunc_SLstring_string.S1 (f : ((ByteArray × Unit) → Option (Bool × Unit))) : Sum := ⟨([], [0, 1, 7, 8]), sumF slices_IndexFunc_SLstring_string.sh1 (slices_IndexFunc_SLstring_string.G1 f fuel), slices_IndexFunc_SLstring_string.ko1⟩
theorem slices_IndexFunc_SLstring_string.ok1 (f : ((ByteArray × Unit) → Option (Bool × Unit))) (hE : EOk Tryz.prog (slices_IndexFunc_SLstring_string.E)) : SumOk Tryz.prog { (slices_IndexFunc_SLstring_string.E) with gv := [fnE [.one (.str)] [.one (.bool)] f] } (cB (cR (cL (cR (bodyOf Tryz.f139))))) (slices_IndexFunc_SLstring_string.S1 f) := by
  have hh : HintOk Tryz.prog { (slices_IndexFunc_SLstring_string.E) with gv := [fnE [.one (.str)] [.one (.bool)] f] } (cB (cB (cR (cL (cR (bodyOf Tryz.f139)))))) (.a) := HintOk.n1 (Q := True) (by kernel_rfl) trivial
  have h := loopS (kin := ([], [0, 1, 7, 8])) (kout := slices_IndexFunc_SLstring_string.ko1) (sh := slices_IndexFunc_SLstring_string.sh1) (F := slices_IndexFunc_SLstring_string.G1 f) (ops_ok (hE.gv _)) (by kernel_rfl) hh (fun _ _ _ => rfl) (fun n R t K => by kernel_rfl) fuel
  exact HintOk.n1 (c := (cB (cR (cL (cR (bodyOf Tryz.f139)))))) (h := .s (slices_IndexFunc_SLstring_string.S1 f)) (P := Tryz.prog) (E := { (slices_IndexFunc_SLstring_string.E) with gv := [fnE [.one (.str)] [.one (.bool)] f] }) (by kernel_rfl) h
theorem slices_IndexFunc_SLstring_string.hok (f : ((ByteArray × Unit) → Option (Bool × Unit))) (hE : EOk Tryz.prog (slices_IndexFunc_SLstring_string.E)) : HintOk Tryz.prog { (slices_IndexFunc_SLstring_string.E) with gv := [fnE [.one (.str)] [.one (.bool)] f] } (bodyOf Tryz.f139) (.n (.a) (.n (.n (.a) (.b (.s (slices_IndexFunc_SLstring_string.S1 f)))) (.a))) := HintOk.n1 (Q := (True) ∧ (((True) ∧ (SumOk Tryz.prog { (slices_IndexFunc_SLstring_string.E) with gv := [fnE [.one (.str)] [.one (.bool)] f] } (cB (cR (cL (cR (bodyOf Tryz.f139))))) (slices_IndexFunc_SLstring_string.S1 f))) ∧ (True))) (by kernel_rfl) ⟨trivial, ⟨⟨trivial, (slices_IndexFunc_SLstring_string.ok1 f hE)⟩, trivial⟩⟩
theorem slices_IndexFunc_SLstring_string.hE : EOk Tryz.prog (slices_IndexFunc_SLstring_string.E) := EOk.of ttOk (trivial)
theorem slices_IndexFunc_SLstring_string.fok : FOk Tryz.prog 139 slices_IndexFunc_SLstring_string.fi :=
  fokS (E := slices_IndexFunc_SLstring_string.E) (wy := ⟨[[none]], [[], []], []⟩) (h := (fun gs => let f := fnP [.one (.str)] [.one (.bool)] (gN 0 gs); .n (.a) (.n (.n (.a) (.b (.s (slices_IndexFunc_SLstring_string.S1 f)))) (.a)))) (G := fun t g => slices_IndexFunc_SLstring_string.F (fun y0 => g y0) t.1 t.2.1) (by kernel_rfl) slices_IndexFunc_SLstring_string.hE Tryz.func139 (by kernel_rfl) rfl (Nat.le_refl _) (fun t => HintOk.n1 (by kernel_rfl) (slices_IndexFunc_SLstring_string.hok t.2.1 slices_IndexFunc_SLstring_string.hE)) (fun t g => slices_IndexFunc_SLstring_string_nat g t.1 t.2.1) (fun t => by kernel_rfl)
/-! slices.ContainsFunc___string_string_ -/
def slices_ContainsFunc_SLstring_string.F {R : Type} (kk : Bool → Option R) (s : List ByteArray) (f : ((ByteArray × Unit) → Option (Bool × Unit))) : Option R :=
  (slices_IndexFunc_SLstring_string s f).bind fun r =>
  kk (decide (r ≥ (0 : Int)))
theorem slices_ContainsFunc_SLstring_string.F_nat {R S : Type} (g : R → Option S) (kk : Bool → Option R) (s : List ByteArray) (f : ((ByteArray × Unit) → Option (Bool × Unit))) : slices_ContainsFunc_SLstring_string.F (fun y0 => (kk y0).bind g) s f = (slices_ContainsFunc_SLstring_string.F kk s f).bind g := by
  simp only [slices_ContainsFunc_SLstring_string.F, grd_bind, cnd_bind, bnd_bind, non_bind]
def slices_ContainsFunc_SLstring_string (s : List ByteArray) (f : ((ByteArray × Unit) → Option (Bool × Unit))) : Option Bool := slices_ContainsFunc_SLstring_string.F (fun y0 => some y0) s f
theorem slices_ContainsFunc_SLstring_string_nat {S : Type} (g : Bool → Option S) (s : List ByteArray) (f : ((ByteArray × Unit) → Option (Bool × Unit))) : slices_ContainsFunc_SLstring_string.F (fun y0 => g y0) s f = (slices_ContainsFunc_SLstring_string s f).bind g := slices_ContainsFunc_SLstring_string.F_nat g (fun y0 => some y0) s f
def slices_ContainsFunc_SLstring_string.out : Bool → CRes := fun a => ⟨encL SV.enc [.one (.bool)] (a, ()), [encL SC.enc [] (), encL SC.enc [] ()]⟩
def slices_ContainsFunc_SLstring_string.ps : List PS := [.val [some (.str, false)], .fn [.one (.bool)]]
def slices_ContainsFunc_SLstring_string.sA : List SA := [.v (.one (.slv [] .str)), .fn [.one (.str)] [.one (.bool)]]
def slices_ContainsFunc_SLstring_string.fi : FI := FIs slices_ContainsFunc_SLstring_string.sA (Bool) (fun t => slices_ContainsFunc_SLstring_string t.1 t.2.1) slices_ContainsFunc_SLstring_string.out slices_ContainsFunc_SLstring_string.ps
def slices_ContainsFunc_SLstring_string.E : Env := ⟨tt, lkF [(139, slices_IndexFunc_SLstring_string.fi)], 9, 0, [], []⟩
theorem slices_ContainsFunc_SLstring_string.hok (f : ((ByteArray × Unit) → Option (Bool × Unit))) (hE : EOk Tryz.prog (slices_ContainsFunc_SLstring_string.E)) : HintOk Tryz.prog { (slices_ContainsFunc_SLstring_string.E) with gv := [fnE [.one (.str)] [.one (.bool)] f] } (bodyOf Tryz.f92) (.a) := HintOk.n1 (Q := True) (by kernel_rfl) trivial
theorem slices_ContainsFunc_SLstring_string.hE : EOk Tryz.prog (slices_ContainsFunc_SLstring_string.E) := EOk.of ttOk (⟨slices_IndexFunc_SLstring_string.fok, trivial⟩)
theorem slices_ContainsFunc_SLstring_string.fok : FOk Tryz.prog 92 slices_ContainsFunc_SLstring_string.fi :=
  fokS (E := slices_ContainsFunc_SLstring_string.E) (wy := ⟨[[none]], [[], []], []⟩) (h := (fun gs => let f := fnP [.one (.str)] [.one (.bool)] (gN 0 gs); .a)) (G := fun t g => slices_ContainsFunc_SLstring_string.F (fun y0 => g y0) t.1 t.2.1) (by kernel_rfl) slices_ContainsFunc_SLstring_string.hE Tryz.func92 (by kernel_rfl) rfl (Nat.le_refl _) (fun t => HintOk.n1 (by kernel_rfl) (slices_ContainsFunc_SLstring_string.hok t.2.1 slices_ContainsFunc_SLstring_string.hE)) (fun t g => slices_ContainsFunc_SLstring_string_nat g t.1 t.2.1) (fun t => by kernel_rfl)
/-! loop.example_g00220_impl.foldRecords$1 -/
def i_foldRecords_1.F {R : Type} (kk : Bool → Option R) (record : ByteArray) : Option R :=
  kk (decide ((ByteArray.size record : Int) > (110 : Int)))
theorem i_foldRecords_1.F_nat {R S : Type} (g : R → Option S) (kk : Bool → Option R) (record : ByteArray) : i_foldRecords_1.F (fun y0 => (kk y0).bind g) record = (i_foldRecords_1.F kk record).bind g := by
  simp only [i_foldRecords_1.F, grd_bind, cnd_bind, bnd_bind, non_bind]
def i_foldRecords_1 (record : ByteArray) : Option Bool := i_foldRecords_1.F (fun y0 => some y0) record
theorem i_foldRecords_1_nat {S : Type} (g : Bool → Option S) (record : ByteArray) : i_foldRecords_1.F (fun y0 => g y0) record = (i_foldRecords_1 record).bind g := i_foldRecords_1.F_nat g (fun y0 => some y0) record
def i_foldRecords_1.out : Bool → CRes := fun a => ⟨encL SV.enc [.one (.bool)] (a, ()), [encL SC.enc [] ()]⟩
def i_foldRecords_1.ps : List PS := [.val [none]]
def i_foldRecords_1.sA : List SA := [.v (.one (.str))]
def i_foldRecords_1.fi : FI := FIs i_foldRecords_1.sA (Bool) (fun t => i_foldRecords_1 t.1) i_foldRecords_1.out i_foldRecords_1.ps
def i_foldRecords_1.E : Env := ⟨tt, lkF [], 6, 0, [], []⟩
theorem i_foldRecords_1.hok (hE : EOk Tryz.prog (i_foldRecords_1.E)) : HintOk Tryz.prog i_foldRecords_1.E (bodyOf Tryz.f93) (.a) := HintOk.n1 (Q := True) (by kernel_rfl) trivial
theorem i_foldRecords_1.hE : EOk Tryz.prog (i_foldRecords_1.E) := EOk.of ttOk (trivial)
theorem i_foldRecords_1.fok : FOk Tryz.prog 93 i_foldRecords_1.fi :=
  fokS (E := i_foldRecords_1.E) (wy := ⟨[[none]], [[]], []⟩) (h := (fun gs => .a)) (G := fun t g => i_foldRecords_1.F (fun y0 => g y0) t.1) (by kernel_rfl) i_foldRecords_1.hE Tryz.func93 (by kernel_rfl) rfl (Nat.le_refl _) (fun t => HintOk.n1 (by kernel_rfl) (i_foldRecords_1.hok i_foldRecords_1.hE)) (fun t g => i_foldRecords_1_nat g t.1) (fun t => by kernel_rfl)
/-! __loop.example_g00220_impl.reader_.take -/
def i_reader_take.F {R : Type} (kk : ByteArray → ByteArray → Bool → Option R) (r_s : ByteArray) (r_bad : Bool) (many : Int) : Option R :=
  cond (r_bad) (kk ByteArray.empty r_s true) (
    cond (decide (many > (ByteArray.size r_s : Int))) (kk ByteArray.empty r_s true) (
      grd (gSl (0 : Int) many (ByteArray.size r_s)) <|
      grd (gSl many (ByteArray.size r_s : Int) (ByteArray.size r_s)) <|
      kk (cut r_s (0 : Int) many) (cut r_s many (ByteArray.size r_s : Int)) r_bad))
theorem i_reader_take.F_nat {R S : Type} (g : R → Option S) (kk : ByteArray → ByteArray → Bool → Option R) (r_s : ByteArray) (r_bad : Bool) (many : Int) : i_reader_take.F (fun y0 y1 y2 => (kk y0 y1 y2).bind g) r_s r_bad many = (i_reader_take.F kk r_s r_bad many).bind g := by
  simp only [i_reader_take.F, grd_bind, cnd_bind, bnd_bind, non_bind]
def i_reader_take (r_s : ByteArray) (r_bad : Bool) (many : Int) : Option (ByteArray × ByteArray × Bool) := i_reader_take.F (fun y0 y1 y2 => some (y0, y1, y2)) r_s r_bad many
theorem i_reader_take_nat {S : Type} (g : (ByteArray × ByteArray × Bool) → Option S) (r_s : ByteArray) (r_bad : Bool) (many : Int) : i_reader_take.F (fun y0 y1 y2 => g (y0, y1, y2)) r_s r_bad many = (i_reader_take r_s r_bad many).bind g := i_reader_take.F_nat g (fun y0 y1 y2 => some (y0, y1, y2)) r_s r_bad many
def i_reader_take.out : (ByteArray × ByteArray × Bool) → CRes := fun a => ⟨encL SV.enc [.one (.str)] (a.1, ()), [encL SC.enc [.str, .bool] (a.2.1, a.2.2, ()), encL SC.enc [] ()]⟩
def i_reader_take.ps : List PS := [.ptr [none, none], .val [none]]
def i_reader_take.sA : List SA := [.ptr [.str, .bool], .v (.one (.int .i64))]
def i_reader_take.fi : FI := FIs i_reader_take.sA (ByteArray × ByteArray × Bool) (fun t => i_reader_take t.1.1 t.1.2.1 t.2.1) i_reader_take.out i_reader_take.ps
def i_reader_take.E : Env := ⟨tt, lkF [], 38, 1, [], []⟩
theorem i_reader_take.hok (hE : EOk Tryz.prog (i_reader_take.E)) : HintOk Tryz.prog i_reader_take.E (bodyOf Tryz.f209) (.a) := HintOk.n1 (Q := True) (by kernel_rfl) trivial
theorem i_reader_take.hE : EOk Tryz.prog (i_reader_take.E) := EOk.of ttOk (trivial)
theorem i_reader_take.fok : FOk Tryz.prog 209 i_reader_take.fi :=
  fokS (E := i_reader_take.E) (wy := ⟨[[none]], [[none, none], []], []⟩) (h := (fun gs => .a)) (G := fun t g => i_reader_take.F (fun y0 y1 y2 => g (y0, y1, y2)) t.1.1 t.1.2.1 t.2.1) (by kernel_rfl) i_reader_take.hE Tryz.func209 (by kernel_rfl) rfl (Nat.le_refl _) (fun t => HintOk.n1 (by kernel_rfl) (i_reader_take.hok i_reader_take.hE)) (fun t g => i_reader_take_nat g t.1.1 t.1.2.1 t.2.1) (fun t => by kernel_rfl)
/-! __loop.example_g00220_impl.reader_.number -/
def i_reader_number.F {R : Type} (kk : Int → ByteArray → Bool → Option R) (r_s : ByteArray) (r_bad : Bool) (many : Int) : Option R :=
  (i_reader_take r_s r_bad many).bind fun r =>
  (i_numberOf r.1).bind fun r1 =>
  kk r1 r.2.1 r.2.2
theorem i_reader_number.F_nat {R S : Type} (g : R → Option S) (kk : Int → ByteArray → Bool → Option R) (r_s : ByteArray) (r_bad : Bool) (many : Int) : i_reader_number.F (fun y0 y1 y2 => (kk y0 y1 y2).bind g) r_s r_bad many = (i_reader_number.F kk r_s r_bad many).bind g := by
  simp only [i_reader_number.F, grd_bind, cnd_bind, bnd_bind, non_bind]
def i_reader_number (r_s : ByteArray) (r_bad : Bool) (many : Int) : Option (Int × ByteArray × Bool) := i_reader_number.F (fun y0 y1 y2 => some (y0, y1, y2)) r_s r_bad many
theorem i_reader_number_nat {S : Type} (g : (Int × ByteArray × Bool) → Option S) (r_s : ByteArray) (r_bad : Bool) (many : Int) : i_reader_number.F (fun y0 y1 y2 => g (y0, y1, y2)) r_s r_bad many = (i_reader_number r_s r_bad many).bind g := i_reader_number.F_nat g (fun y0 y1 y2 => some (y0, y1, y2)) r_s r_bad many
def i_reader_number.out : (Int × ByteArray × Bool) → CRes := fun a => ⟨encL SV.enc [.one (.int .i64)] (a.1, ()), [encL SC.enc [.str, .bool] (a.2.1, a.2.2, ()), encL SC.enc [] ()]⟩
def i_reader_number.ps : List PS := [.ptr [none, none], .val [none]]
def i_reader_number.sA : List SA := [.ptr [.str, .bool], .v (.one (.int .i64))]
def i_reader_number.fi : FI := FIs i_reader_number.sA (Int × ByteArray × Bool) (fun t => i_reader_number t.1.1 t.1.2.1 t.2.1) i_reader_number.out i_reader_number.ps
def i_reader_number.E : Env := ⟨tt, lkF [(140, i_numberOf.fi), (209, i_reader_take.fi)], 9, 1, [], []⟩
theorem i_reader_number.hok (hE : EOk Tryz.prog (i_reader_number.E)) : HintOk Tryz.prog i_reader_number.E (bodyOf Tryz.f182) (.a) := HintOk.n1 (Q := True) (by kernel_rfl) trivial
theorem i_reader_number.hE : EOk Tryz.prog (i_reader_number.E) := EOk.of ttOk (⟨i_numberOf.fok, ⟨i_reader_take.fok, trivial⟩⟩)
theorem i_reader_number.fok : FOk Tryz.prog 182 i_reader_number.fi :=
  fokS (E := i_reader_number.E) (wy := ⟨[[none]], [[none, none], []], []⟩) (h := (fun gs => .a)) (G := fun t g => i_reader_number.F (fun y0 y1 y2 => g (y0, y1, y2)) t.1.1 t.1.2.1 t.2.1) (by kernel_rfl) i_reader_number.hE Tryz.func182 (by kernel_rfl) rfl (Nat.le_refl _) (fun t => HintOk.n1 (by kernel_rfl) (i_reader_number.hok i_reader_number.hE)) (fun t g => i_reader_number_nat g t.1.1 t.1.2.1 t.2.1) (fun t => by kernel_rfl)
/-! __loop.example_g00220_impl.reader_.counted -/
def i_reader_counted.F {R : Type} (kk : ByteArray → ByteArray → Bool → Option R) (r_s : ByteArray) (r_bad : Bool) : Option R :=
  (i_reader_number r_s r_bad (1 : Int)).bind fun r =>
  (i_reader_take r.2.1 r.2.2 r.1).bind fun r1 =>
  kk r1.1 r1.2.1 r1.2.2
theorem i_reader_counted.F_nat {R S : Type} (g : R → Option S) (kk : ByteArray → ByteArray → Bool → Option R) (r_s : ByteArray) (r_bad : Bool) : i_reader_counted.F (fun y0 y1 y2 => (kk y0 y1 y2).bind g) r_s r_bad = (i_reader_counted.F kk r_s r_bad).bind g := by
  simp only [i_reader_counted.F, grd_bind, cnd_bind, bnd_bind, non_bind]
def i_reader_counted (r_s : ByteArray) (r_bad : Bool) : Option (ByteArray × ByteArray × Bool) := i_reader_counted.F (fun y0 y1 y2 => some (y0, y1, y2)) r_s r_bad
theorem i_reader_counted_nat {S : Type} (g : (ByteArray × ByteArray × Bool) → Option S) (r_s : ByteArray) (r_bad : Bool) : i_reader_counted.F (fun y0 y1 y2 => g (y0, y1, y2)) r_s r_bad = (i_reader_counted r_s r_bad).bind g := i_reader_counted.F_nat g (fun y0 y1 y2 => some (y0, y1, y2)) r_s r_bad
def i_reader_counted.out : (ByteArray × ByteArray × Bool) → CRes := fun a => ⟨encL SV.enc [.one (.str)] (a.1, ()), [encL SC.enc [.str, .bool] (a.2.1, a.2.2, ())]⟩
def i_reader_counted.ps : List PS := [.ptr [none, none]]
def i_reader_counted.sA : List SA := [.ptr [.str, .bool]]
def i_reader_counted.fi : FI := FIs i_reader_counted.sA (ByteArray × ByteArray × Bool) (fun t => i_reader_counted t.1.1 t.1.2.1) i_reader_counted.out i_reader_counted.ps
def i_reader_counted.E : Env := ⟨tt, lkF [(182, i_reader_number.fi), (209, i_reader_take.fi)], 7, 1, [], []⟩
theorem i_reader_counted.hok (hE : EOk Tryz.prog (i_reader_counted.E)) : HintOk Tryz.prog i_reader_counted.E (bodyOf Tryz.f183) (.a) := HintOk.n1 (Q := True) (by kernel_rfl) trivial
theorem i_reader_counted.hE : EOk Tryz.prog (i_reader_counted.E) := EOk.of ttOk (⟨i_reader_number.fok, ⟨i_reader_take.fok, trivial⟩⟩)
theorem i_reader_counted.fok : FOk Tryz.prog 183 i_reader_counted.fi :=
  fokS (E := i_reader_counted.E) (wy := ⟨[[none]], [[none, none]], []⟩) (h := (fun gs => .a)) (G := fun t g => i_reader_counted.F (fun y0 y1 y2 => g (y0, y1, y2)) t.1.1 t.1.2.1) (by kernel_rfl) i_reader_counted.hE Tryz.func183 (by kernel_rfl) rfl (Nat.le_refl _) (fun t => HintOk.n1 (by kernel_rfl) (i_reader_counted.hok i_reader_counted.hE)) (fun t g => i_reader_counted_nat g t.1.1 t.1.2.1) (fun t => by kernel_rfl)
/-! loop.example_g00220_impl.readEntry -/
def i_readEntry.F {R : Type} (kk : Int → Int → ByteArray → Bool → Option R) (s : ByteArray) : Option R :=
  (i_reader_number s false (4 : Int)).bind fun r =>
  (i_reader_number r.2.1 r.2.2 (1 : Int)).bind fun r1 =>
  (i_reader_counted r1.2.1 r1.2.2).bind fun r2 =>
  cond (!r2.2.2) (
    cond (sEq r2.2.1 ByteArray.empty) (
      (i_entryOK r.1 r1.1 r2.1).bind fun r3 =>
      kk r.1 r1.1 r2.1 r3) (kk r.1 r1.1 r2.1 false)) (kk r.1 r1.1 r2.1 false)
theorem i_readEntry.F_nat {R S : Type} (g : R → Option S) (kk : Int → Int → ByteArray → Bool → Option R) (s : ByteArray) : i_readEntry.F (fun y0 y1 y2 y3 => (kk y0 y1 y2 y3).bind g) s = (i_readEntry.F kk s).bind g := by
  simp only [i_readEntry.F, grd_bind, cnd_bind, bnd_bind, non_bind]
def i_readEntry (s : ByteArray) : Option (Int × Int × ByteArray × Bool) := i_readEntry.F (fun y0 y1 y2 y3 => some (y0, y1, y2, y3)) s
theorem i_readEntry_nat {S : Type} (g : (Int × Int × ByteArray × Bool) → Option S) (s : ByteArray) : i_readEntry.F (fun y0 y1 y2 y3 => g (y0, y1, y2, y3)) s = (i_readEntry s).bind g := i_readEntry.F_nat g (fun y0 y1 y2 y3 => some (y0, y1, y2, y3)) s
def i_readEntry.out : (Int × Int × ByteArray × Bool) → CRes := fun a => ⟨encL SV.enc [.agg [.int .i64, .int .i64, .str], .one (.bool)] ((a.1, a.2.1, a.2.2.1, ()), a.2.2.2, ()), [encL SC.enc [] ()]⟩
def i_readEntry.ps : List PS := [.val [none]]
def i_readEntry.sA : List SA := [.v (.one (.str))]
def i_readEntry.fi : FI := FIs i_readEntry.sA (Int × Int × ByteArray × Bool) (fun t => i_readEntry t.1) i_readEntry.out i_readEntry.ps
def i_readEntry.E : Env := ⟨tt, lkF [(107, i_entryOK.fi), (182, i_reader_number.fi), (183, i_reader_counted.fi)], 36, 0, [], []⟩
theorem i_readEntry.hok (hE : EOk Tryz.prog (i_readEntry.E)) : HintOk Tryz.prog i_readEntry.E (bodyOf Tryz.f141) (.a) := HintOk.n1 (Q := True) (by kernel_rfl) trivial
theorem i_readEntry.hE : EOk Tryz.prog (i_readEntry.E) := EOk.of ttOk (⟨i_entryOK.fok, ⟨i_reader_number.fok, ⟨i_reader_counted.fok, trivial⟩⟩⟩)
theorem i_readEntry.fok : FOk Tryz.prog 141 i_readEntry.fi :=
  fokS (E := i_readEntry.E) (wy := ⟨[[none, none, none], [none]], [[]], []⟩) (h := (fun gs => .a)) (G := fun t g => i_readEntry.F (fun y0 y1 y2 y3 => g (y0, y1, y2, y3)) t.1) (by kernel_rfl) i_readEntry.hE Tryz.func141 (by kernel_rfl) rfl (Nat.le_refl _) (fun t => HintOk.n1 (by kernel_rfl) (i_readEntry.hok i_readEntry.hE)) (fun t g => i_readEntry_nat g t.1) (fun t => by kernel_rfl)
/-! __loop.example_g00220_impl.State_.fold -/
def i_State_fold.F {R : Type} (kk : Bool → Int → Int → List (El kEntry) → Option R) (s_Term : Int) (s_Vote : Int) (s_Log : List (El kEntry)) (record : ByteArray) : Option R :=
  cond (sEq record ByteArray.empty) (kk false s_Term s_Vote s_Log) (
    grd (gSl (1 : Int) (ByteArray.size record : Int) (ByteArray.size record)) <|
    grd (gIx (0 : Int) (ByteArray.size record)) <|
    cond ((byteAt record (0 : Int)) == (84 : Int)) (
      cond ((ByteArray.size (cut record (1 : Int) (ByteArray.size record : Int)) : Int) != (5 : Int)) (kk false s_Term s_Vote s_Log) (
        grd (gSl (0 : Int) (4 : Int) (ByteArray.size (cut record (1 : Int) (ByteArray.size record : Int)))) <|
        (i_numberOf (cut (cut record (1 : Int) (ByteArray.size record : Int)) (0 : Int) (4 : Int))).bind fun r =>
        grd (gSl (4 : Int) (ByteArray.size (cut record (1 : Int) (ByteArray.size record : Int)) : Int) (ByteArray.size (cut record (1 : Int) (ByteArray.size record : Int)))) <|
        (i_numberOf (cut (cut record (1 : Int) (ByteArray.size record : Int)) (4 : Int) (ByteArray.size (cut record (1 : Int) (ByteArray.size record : Int)) : Int))).bind fun r1 =>
        kk true r (IntKind.wrap .i64 (r1 - (1 : Int))) s_Log)) (
      cond ((byteAt record (0 : Int)) == (67 : Int)) (
        (i_numberOf (cut record (1 : Int) (ByteArray.size record : Int))).bind fun r2 =>
        cond ((ByteArray.size (cut record (1 : Int) (ByteArray.size record : Int)) : Int) != (4 : Int)) (kk false s_Term s_Vote s_Log) (
          cond (decide (r2 > (List.length s_Log : Int))) (kk false s_Term s_Vote s_Log) (
            grd (gSl (0 : Int) r2 (List.length s_Log)) <|
            kk true s_Term s_Vote (sub s_Log (0 : Int) r2)))) (
        cond ((byteAt record (0 : Int)) == (69 : Int)) (
          (i_readEntry (cut record (1 : Int) (ByteArray.size record : Int))).bind fun r3 =>
          grd (gRm (((List.length s_Log) + (List.length [(r3.1, (r3.2.1, r3.2.2.1))])) * 32)) <|
          cond (r3.2.2.2) (
            kk (decide ((List.length (s_Log ++ [(r3.1, (r3.2.1, r3.2.2.1))]) : Int) ≤ (60 : Int))) s_Term s_Vote (s_Log ++ [(r3.1, (r3.2.1, r3.2.2.1))])) (kk false s_Term s_Vote (s_Log ++ [(r3.1, (r3.2.1, r3.2.2.1))]))) (kk false s_Term s_Vote s_Log))))
theorem i_State_fold.F_nat {R S : Type} (g : R → Option S) (kk : Bool → Int → Int → List (El kEntry) → Option R) (s_Term : Int) (s_Vote : Int) (s_Log : List (El kEntry)) (record : ByteArray) : i_State_fold.F (fun y0 y1 y2 y3 => (kk y0 y1 y2 y3).bind g) s_Term s_Vote s_Log record = (i_State_fold.F kk s_Term s_Vote s_Log record).bind g := by
  simp only [i_State_fold.F, grd_bind, cnd_bind, bnd_bind, non_bind]
def i_State_fold (s_Term : Int) (s_Vote : Int) (s_Log : List (El kEntry)) (record : ByteArray) : Option (Bool × Int × Int × List (El kEntry)) := i_State_fold.F (fun y0 y1 y2 y3 => some (y0, y1, y2, y3)) s_Term s_Vote s_Log record
theorem i_State_fold_nat {S : Type} (g : (Bool × Int × Int × List (El kEntry)) → Option S) (s_Term : Int) (s_Vote : Int) (s_Log : List (El kEntry)) (record : ByteArray) : i_State_fold.F (fun y0 y1 y2 y3 => g (y0, y1, y2, y3)) s_Term s_Vote s_Log record = (i_State_fold s_Term s_Vote s_Log record).bind g := i_State_fold.F_nat g (fun y0 y1 y2 y3 => some (y0, y1, y2, y3)) s_Term s_Vote s_Log record
def i_State_fold.out : (Bool × Int × Int × List (El kEntry)) → CRes := fun a => ⟨encL SV.enc [.one (.bool)] (a.1, ()), [encL SC.enc [.int .i64, .int .i64, .own [] kEntry true] (a.2.1, a.2.2.1, a.2.2.2, ()), encL SC.enc [] ()]⟩
def i_State_fold.ps : List PS := [.ptr [none, none, some (kEntry, true)], .val [none]]
def i_State_fold.sA : List SA := [.ptr [.int .i64, .int .i64, .own [] kEntry true], .v (.one (.str))]
def i_State_fold.fi : FI := FIs i_State_fold.sA (Bool × Int × Int × List (El kEntry)) (fun t => i_State_fold t.1.1 t.1.2.1 t.1.2.2.1 t.2.1) i_State_fold.out i_State_fold.ps
def i_State_fold.E : Env := ⟨tt, lkF [(140, i_numberOf.fi), (141, i_readEntry.fi)], 84, 2, [], [55]⟩
theorem i_State_fold.hok (hE : EOk Tryz.prog (i_State_fold.E)) : HintOk Tryz.prog i_State_fold.E (bodyOf Tryz.f94) (.a) := HintOk.n1 (Q := True) (by kernel_rfl) trivial
theorem i_State_fold.hE : EOk Tryz.prog (i_State_fold.E) := EOk.of ttOk (⟨i_numberOf.fok, ⟨i_readEntry.fok, trivial⟩⟩)
theorem i_State_fold.fok : FOk Tryz.prog 94 i_State_fold.fi :=
  fokS (E := i_State_fold.E) (wy := ⟨[[none]], [[none, none, some (kEntry, true)], []], []⟩) (h := (fun gs => .a)) (G := fun t g => i_State_fold.F (fun y0 y1 y2 y3 => g (y0, y1, y2, y3)) t.1.1 t.1.2.1 t.1.2.2.1 t.2.1) (by kernel_rfl) i_State_fold.hE Tryz.func94 (by kernel_rfl) rfl (Nat.le_refl _) (fun t => HintOk.n1 (by kernel_rfl) (i_State_fold.hok i_State_fold.hE)) (fun t g => i_State_fold_nat g t.1.1 t.1.2.1 t.1.2.2.1 t.2.1) (fun t => by kernel_rfl)
/-! slices.Clone___loop.example_g00220_impl.Entry_loop.example_g00220_impl.Entry_ -/
def slices_Clone_SLi_Entry_i_Entry.F {R : Type} (kk : List (El kEntry) → Option R) (s : List (El kEntry)) : Option R :=
  cond (List.isEmpty s) (
    agree (kk []) (
      grd (gRm (((List.length ([] : List (El kEntry))) + (List.length s)) * 32)) <|
      kk (([] : List (El kEntry)) ++ s))) (
    grd (gRm (((List.length ([] : List (El kEntry))) + (List.length s)) * 32)) <|
    kk (([] : List (El kEntry)) ++ s))
theorem slices_Clone_SLi_Entry_i_Entry.F_nat {R S : Type} (g : R → Option S) (kk : List (El kEntry) → Option R) (s : List (El kEntry)) : slices_Clone_SLi_Entry_i_Entry.F (fun y0 => (kk y0).bind g) s = (slices_Clone_SLi_Entry_i_Entry.F kk s).bind g := by
  cases s with
  | nil =>
    have e : ∀ {R : Type} (k : List (El kEntry) → Option R), slices_Clone_SLi_Entry_i_Entry.F k [] = agree (k []) (k []) := fun k => by kernel_rfl
    rw [e, e, agree_self, agree_self]
  | cons x l => simp only [slices_Clone_SLi_Entry_i_Entry.F, List.isEmpty_cons, cond_false, grd_bind]
def slices_Clone_SLi_Entry_i_Entry (s : List (El kEntry)) : Option (List (El kEntry)) := slices_Clone_SLi_Entry_i_Entry.F (fun y0 => some y0) s
theorem slices_Clone_SLi_Entry_i_Entry_nat {S : Type} (g : (List (El kEntry)) → Option S) (s : List (El kEntry)) : slices_Clone_SLi_Entry_i_Entry.F (fun y0 => g y0) s = (slices_Clone_SLi_Entry_i_Entry s).bind g := slices_Clone_SLi_Entry_i_Entry.F_nat g (fun y0 => some y0) s
def slices_Clone_SLi_Entry_i_Entry.out : (List (El kEntry)) → CRes := fun a => ⟨encL SV.enc [.one (.own [] kEntry true)] (a, ()), [encL SC.enc [] ()]⟩
def slices_Clone_SLi_Entry_i_Entry.ps : List PS := [.val [some (kEntry, false)]]
def slices_Clone_SLi_Entry_i_Entry.sA : List SA := [.v (.one (.slv [] kEntry))]
def slices_Clone_SLi_Entry_i_Entry.fi : FI := FIs slices_Clone_SLi_Entry_i_Entry.sA (List (El kEntry)) (fun t => slices_Clone_SLi_Entry_i_Entry t.1) slices_Clone_SLi_Entry_i_Entry.out slices_Clone_SLi_Entry_i_Entry.ps
def slices_Clone_SLi_Entry_i_Entry.E : Env := ⟨tt, lkF [], 8, 0, [], []⟩
theorem slices_Clone_SLi_Entry_i_Entry.hok (hE : EOk Tryz.prog (slices_Clone_SLi_Entry_i_Entry.E)) : HintOk Tryz.prog slices_Clone_SLi_Entry_i_Entry.E (bodyOf Tryz.f95) (.a) := HintOk.n1 (Q := True) (by kernel_rfl) trivial
theorem slices_Clone_SLi_Entry_i_Entry.hE : EOk Tryz.prog (slices_Clone_SLi_Entry_i_Entry.E) := EOk.of ttOk (trivial)
theorem slices_Clone_SLi_Entry_i_Entry.fok : FOk Tryz.prog 95 slices_Clone_SLi_Entry_i_Entry.fi :=
  fokS (E := slices_Clone_SLi_Entry_i_Entry.E) (wy := ⟨[[some (kEntry, true)]], [[]], []⟩) (h := (fun gs => .a)) (G := fun t g => slices_Clone_SLi_Entry_i_Entry.F (fun y0 => g y0) t.1) (by kernel_rfl) slices_Clone_SLi_Entry_i_Entry.hE Tryz.func95 (by kernel_rfl) rfl (Nat.le_refl _) (fun t => HintOk.n1 (by kernel_rfl) (slices_Clone_SLi_Entry_i_Entry.hok slices_Clone_SLi_Entry_i_Entry.hE)) (fun t g => slices_Clone_SLi_Entry_i_Entry_nat g t.1) (fun t => by kernel_rfl)
end
end Go.Proofs.YtdpjbeeokimnaaaGreatDoorA
