/-
  Functions of the program, and that the small machine's runs are these. No condition.
  Printed by wip/amp/main.py (a session's own program) out of Lean's print of the program; Lean's kernel checks it.
-/
import Derived.Test.YtdpjbeeokimnaaaGreatDoorXaT
namespace Go.Proofs.YtdpjbeeokimnaaaGreatDoorA
open Go
noncomputable section
set_option linter.unusedVariables false
set_option linter.unusedSimpArgs false
set_option maxRecDepth 100000

/-! loop.example_g00220_laws.szTrust -/
def l_szTrust.F {R : Type} (kk : Int → Option R) (a_Key : ByteArray) (a_Has : Bool) (a_Size : Int) (a_Log : ByteArray) (a_Map : ByteArray) (left : Int) : Option R :=
  cond (decide ((IntKind.wrap .i64 (left - (ByteArray.size a_Key : Int))) < (0 : Int))) (kk (-1 : Int)) (
    cond (decide ((IntKind.wrap .i64 ((IntKind.wrap .i64 (left - (ByteArray.size a_Key : Int))) - (ByteArray.size a_Log : Int))) < (0 : Int))) (kk (-1 : Int)) (
      cond (decide ((IntKind.wrap .i64 ((IntKind.wrap .i64 ((IntKind.wrap .i64 (left - (ByteArray.size a_Key : Int))) - (ByteArray.size a_Log : Int))) - (ByteArray.size a_Map : Int))) < (0 : Int))) (kk (-1 : Int)) (
        kk (IntKind.wrap .i64 ((IntKind.wrap .i64 ((IntKind.wrap .i64 (left - (ByteArray.size a_Key : Int))) - (ByteArray.size a_Log : Int))) - (ByteArray.size a_Map : Int))))))
theorem l_szTrust.F_nat {R S : Type} (g : R → Option S) (kk : Int → Option R) (a_Key : ByteArray) (a_Has : Bool) (a_Size : Int) (a_Log : ByteArray) (a_Map : ByteArray) (left : Int) : l_szTrust.F (fun y0 => (kk y0).bind g) a_Key a_Has a_Size a_Log a_Map left = (l_szTrust.F kk a_Key a_Has a_Size a_Log a_Map left).bind g := by
  simp only [l_szTrust.F, grd_bind, cnd_bind, bnd_bind, non_bind]
def l_szTrust (a_Key : ByteArray) (a_Has : Bool) (a_Size : Int) (a_Log : ByteArray) (a_Map : ByteArray) (left : Int) : Option Int := l_szTrust.F (fun y0 => some y0) a_Key a_Has a_Size a_Log a_Map left
theorem l_szTrust_nat {S : Type} (g : Int → Option S) (a_Key : ByteArray) (a_Has : Bool) (a_Size : Int) (a_Log : ByteArray) (a_Map : ByteArray) (left : Int) : l_szTrust.F (fun y0 => g y0) a_Key a_Has a_Size a_Log a_Map left = (l_szTrust a_Key a_Has a_Size a_Log a_Map left).bind g := l_szTrust.F_nat g (fun y0 => some y0) a_Key a_Has a_Size a_Log a_Map left
def l_szTrust.out : Int → CRes := fun a => ⟨encL SV.enc [.one (.int .i64)] (a, ()), [encL SC.enc [] (), encL SC.enc [] ()]⟩
def l_szTrust.ps : List PS := [.val [none, none, none, none, none], .val [none]]
def l_szTrust.sA : List SA := [.v (.agg [.str, .bool, .int .i64, .str, .str]), .v (.one (.int .i64))]
def l_szTrust.fi : FI := FIs l_szTrust.sA (Int) (fun t => l_szTrust t.1.1 t.1.2.1 t.1.2.2.1 t.1.2.2.2.1 t.1.2.2.2.2.1 t.2.1) l_szTrust.out l_szTrust.ps
def l_szTrust.E : Env := ⟨tt, lkF [], 27, 0, [], []⟩
theorem l_szTrust.hok (hE : EOk Tryz.prog (l_szTrust.E)) : HintOk Tryz.prog l_szTrust.E (bodyOf Tryz.f26) (.a) := HintOk.n1 (Q := True) (by kernel_rfl) trivial
theorem l_szTrust.hE : EOk Tryz.prog (l_szTrust.E) := EOk.of ttOk (trivial)
theorem l_szTrust.fok : FOk Tryz.prog 26 l_szTrust.fi :=
  fokS (E := l_szTrust.E) (wy := ⟨[[none]], [[], []], []⟩) (h := (fun gs => .a)) (G := fun t g => l_szTrust.F (fun y0 => g y0) t.1.1 t.1.2.1 t.1.2.2.1 t.1.2.2.2.1 t.1.2.2.2.2.1 t.2.1) (by kernel_rfl) l_szTrust.hE Tryz.func26 (by kernel_rfl) rfl (Nat.le_refl _) (fun t => HintOk.n1 (by kernel_rfl) (l_szTrust.hok l_szTrust.hE)) (fun t g => l_szTrust_nat g t.1.1 t.1.2.1 t.1.2.2.1 t.1.2.2.2.1 t.1.2.2.2.2.1 t.2.1) (fun t => by kernel_rfl)
/-! loop.example_g00220_laws.szStatement -/
def l_szStatement.F {R : Type} (kk : Int → Option R) (a_Size : Int) (a_Log : ByteArray) (a_Map : ByteArray) (left : Int) : Option R :=
  cond (decide ((IntKind.wrap .i64 (left - (ByteArray.size a_Log : Int))) < (0 : Int))) (kk (-1 : Int)) (
    cond (decide ((IntKind.wrap .i64 ((IntKind.wrap .i64 (left - (ByteArray.size a_Log : Int))) - (ByteArray.size a_Map : Int))) < (0 : Int))) (kk (-1 : Int)) (
      kk (IntKind.wrap .i64 ((IntKind.wrap .i64 (left - (ByteArray.size a_Log : Int))) - (ByteArray.size a_Map : Int)))))
theorem l_szStatement.F_nat {R S : Type} (g : R → Option S) (kk : Int → Option R) (a_Size : Int) (a_Log : ByteArray) (a_Map : ByteArray) (left : Int) : l_szStatement.F (fun y0 => (kk y0).bind g) a_Size a_Log a_Map left = (l_szStatement.F kk a_Size a_Log a_Map left).bind g := by
  simp only [l_szStatement.F, grd_bind, cnd_bind, bnd_bind, non_bind]
def l_szStatement (a_Size : Int) (a_Log : ByteArray) (a_Map : ByteArray) (left : Int) : Option Int := l_szStatement.F (fun y0 => some y0) a_Size a_Log a_Map left
theorem l_szStatement_nat {S : Type} (g : Int → Option S) (a_Size : Int) (a_Log : ByteArray) (a_Map : ByteArray) (left : Int) : l_szStatement.F (fun y0 => g y0) a_Size a_Log a_Map left = (l_szStatement a_Size a_Log a_Map left).bind g := l_szStatement.F_nat g (fun y0 => some y0) a_Size a_Log a_Map left
def l_szStatement.out : Int → CRes := fun a => ⟨encL SV.enc [.one (.int .i64)] (a, ()), [encL SC.enc [] (), encL SC.enc [] ()]⟩
def l_szStatement.ps : List PS := [.val [none, none, none], .val [none]]
def l_szStatement.sA : List SA := [.v (.agg [.int .i64, .str, .str]), .v (.one (.int .i64))]
def l_szStatement.fi : FI := FIs l_szStatement.sA (Int) (fun t => l_szStatement t.1.1 t.1.2.1 t.1.2.2.1 t.2.1) l_szStatement.out l_szStatement.ps
def l_szStatement.E : Env := ⟨tt, lkF [], 20, 0, [], []⟩
theorem l_szStatement.hok (hE : EOk Tryz.prog (l_szStatement.E)) : HintOk Tryz.prog l_szStatement.E (bodyOf Tryz.f27) (.a) := HintOk.n1 (Q := True) (by kernel_rfl) trivial
theorem l_szStatement.hE : EOk Tryz.prog (l_szStatement.E) := EOk.of ttOk (trivial)
theorem l_szStatement.fok : FOk Tryz.prog 27 l_szStatement.fi :=
  fokS (E := l_szStatement.E) (wy := ⟨[[none]], [[], []], []⟩) (h := (fun gs => .a)) (G := fun t g => l_szStatement.F (fun y0 => g y0) t.1.1 t.1.2.1 t.1.2.2.1 t.2.1) (by kernel_rfl) l_szStatement.hE Tryz.func27 (by kernel_rfl) rfl (Nat.le_refl _) (fun t => HintOk.n1 (by kernel_rfl) (l_szStatement.hok l_szStatement.hE)) (fun t g => l_szStatement_nat g t.1.1 t.1.2.1 t.1.2.2.1 t.2.1) (fun t => by kernel_rfl)
/-! loop.example_g00220_laws.szStringS -/
def l_szStringS.l1 {R : Type} (kke0 : Int → Option R) (kkr : Int → Option R) : Nat → List ByteArray → Int → Int → Option R
  | 0, _, _, _ => none
  | n + 1, a, left, i =>
    cond (decide (i < (List.length a : Int))) (
      grd (gIx i (List.length a)) <|
      cond (decide ((IntKind.wrap .i64 (left - (ByteArray.size (rdE (.str : Kd) a (Int.toNat i)) : Int))) < (0 : Int))) (kkr (-1 : Int)) (
        l_szStringS.l1 kke0 kkr n a (IntKind.wrap .i64 (left - (ByteArray.size (rdE (.str : Kd) a (Int.toNat i)) : Int))) (IntKind.wrap .i64 (i + (1 : Int))))) (kke0 left)
theorem l_szStringS.l1_nat {R S : Type} (g : R → Option S) (kke0 : Int → Option R) (kkr : Int → Option R) : ∀ (n : Nat) (a : List ByteArray) (left : Int) (i : Int), l_szStringS.l1 (fun y0 => (kke0 y0).bind g) (fun y0 => (kkr y0).bind g) n a left i = (l_szStringS.l1 kke0 kkr n a left i).bind g := by
  intro n
  induction n with
  | zero => intros; rfl
  | succ n ih => intros; simp only [l_szStringS.l1, grd_bind, cnd_bind, bnd_bind, non_bind, ih]
def l_szStringS.F {R : Type} (kk : Int → Option R) (a : List ByteArray) (left : Int) : Option R :=
  cond (decide ((IntKind.wrap .i64 (left - (List.length a : Int))) < (0 : Int))) (kk (-1 : Int)) (
    l_szStringS.l1 (fun left1 => kk left1) (fun i => kk i) fuel a (IntKind.wrap .i64 (left - (List.length a : Int))) (0 : Int))
theorem l_szStringS.F_nat {R S : Type} (g : R → Option S) (kk : Int → Option R) (a : List ByteArray) (left : Int) : l_szStringS.F (fun y0 => (kk y0).bind g) a left = (l_szStringS.F kk a left).bind g := by
  simp only [l_szStringS.F, grd_bind, cnd_bind, bnd_bind, non_bind, ← l_szStringS.l1_nat]
def l_szStringS (a : List ByteArray) (left : Int) : Option Int := l_szStringS.F (fun y0 => some y0) a left
theorem l_szStringS_nat {S : Type} (g : Int → Option S) (a : List ByteArray) (left : Int) : l_szStringS.F (fun y0 => g y0) a left = (l_szStringS a left).bind g := l_szStringS.F_nat g (fun y0 => some y0) a left
def l_szStringS.out : Int → CRes := fun a => ⟨encL SV.enc [.one (.int .i64)] (a, ()), [encL SC.enc [] (), encL SC.enc [] ()]⟩
def l_szStringS.ps : List PS := [.val [some (.str, false)], .val [none]]
def l_szStringS.sA : List SA := [.v (.one (.slv [] .str)), .v (.one (.int .i64))]
def l_szStringS.fi : FI := FIs l_szStringS.sA (Int) (fun t => l_szStringS t.1 t.2.1) l_szStringS.out l_szStringS.ps
def l_szStringS.E : Env := ⟨tt, lkF [], 28, 0, [], []⟩
def l_szStringS.sh1 : SK := ⟨[.v (.one (.slv [1] .str)), .v (.one (.int .i64)), .v (.one (.int .i64))], []⟩
def l_szStringS.sh1e0 : SK := ⟨[.v (.one (.int .i64))], []⟩
def l_szStringS.sh1r : SK := ⟨[.v (.one (.int .i64))], []⟩
def l_szStringS.ko1 : Ex → List CastAt × List Nat
  | .nrm => ([], [])
  | .ret => ([], [4])
  | .ext i => cond (Nat.beq i 0) ([], [1]) ([], [])
def l_szStringS.G1 (n : Nat) (R : Type) (t : l_szStringS.sh1.T) (K : Ex → Kp → Option R) : Option R := l_szStringS.l1 (fun y0 => K (.ext 0) (SK.enc l_szStringS.sh1e0 ((y0, ()), ()))) (fun y0 => K .ret (SK.enc l_szStringS.sh1r ((y0, ()), ()))) n t.1.1 t.1.2.1 t.1.2.2.1
def l_szStringS.S1 : Sum := ⟨([], [0, 1, 5]), sumF l_szStringS.sh1 (l_szStringS.G1 fuel), l_szStringS.ko1⟩
theorem l_szStringS.ok1 (hE : EOk Tryz.prog (l_szStringS.E)) : SumOk Tryz.prog l_szStringS.E (cB (cR (cL (cR (cR (cR (bodyOf Tryz.f29))))))) (l_szStringS.S1) := by
  have hh : HintOk Tryz.prog l_szStringS.E (cB (cB (cR (cL (cR (cR (cR (bodyOf Tryz.f29)))))))) (.a) := HintOk.n1 (Q := True) (by kernel_rfl) trivial
  have h := loopS (kin := ([], [0, 1, 5])) (kout := l_szStringS.ko1) (sh := l_szStringS.sh1) (F := l_szStringS.G1) (ops_ok (hE.gv _)) (by kernel_rfl) hh (fun _ _ _ => rfl) (fun n R t K => by kernel_rfl) fuel
  exact HintOk.n1 (c := (cB (cR (cL (cR (cR (cR (bodyOf Tryz.f29)))))))) (h := .s (l_szStringS.S1)) (P := Tryz.prog) (E := l_szStringS.E) (by kernel_rfl) h
theorem l_szStringS.hok (hE : EOk Tryz.prog (l_szStringS.E)) : HintOk Tryz.prog l_szStringS.E (bodyOf Tryz.f29) (.n (.a) (.n (.a) (.n (.a) (.n (.n (.a) (.b (.s (l_szStringS.S1)))) (.a))))) := HintOk.n1 (Q := (True) ∧ ((True) ∧ ((True) ∧ (((True) ∧ (SumOk Tryz.prog l_szStringS.E (cB (cR (cL (cR (cR (cR (bodyOf Tryz.f29))))))) (l_szStringS.S1))) ∧ (True))))) (by kernel_rfl) ⟨trivial, ⟨trivial, ⟨trivial, ⟨⟨trivial, (l_szStringS.ok1 hE)⟩, trivial⟩⟩⟩⟩
theorem l_szStringS.hE : EOk Tryz.prog (l_szStringS.E) := EOk.of ttOk (trivial)
theorem l_szStringS.fok : FOk Tryz.prog 29 l_szStringS.fi :=
  fokS (E := l_szStringS.E) (wy := ⟨[[none]], [[], []], []⟩) (h := (fun gs => .n (.a) (.n (.a) (.n (.a) (.n (.n (.a) (.b (.s (l_szStringS.S1)))) (.a)))))) (G := fun t g => l_szStringS.F (fun y0 => g y0) t.1 t.2.1) (by kernel_rfl) l_szStringS.hE Tryz.func29 (by kernel_rfl) rfl (Nat.le_refl _) (fun t => HintOk.n1 (by kernel_rfl) (l_szStringS.hok l_szStringS.hE)) (fun t g => l_szStringS_nat g t.1 t.2.1) (fun t => by kernel_rfl)
/-! loop.example_g00220_laws.szSignature -/
def l_szSignature.F {R : Type} (kk : Int → Option R) (a_Index : Int) (a_Parts : List ByteArray) (a_Path : List ByteArray) (left : Int) : Option R :=
  (l_szStringS a_Parts left).bind fun r =>
  cond (decide (r < (0 : Int))) (kk (-1 : Int)) (
    (l_szStringS a_Path r).bind fun r1 =>
    cond (decide (r1 < (0 : Int))) (kk (-1 : Int)) (kk r1))
theorem l_szSignature.F_nat {R S : Type} (g : R → Option S) (kk : Int → Option R) (a_Index : Int) (a_Parts : List ByteArray) (a_Path : List ByteArray) (left : Int) : l_szSignature.F (fun y0 => (kk y0).bind g) a_Index a_Parts a_Path left = (l_szSignature.F kk a_Index a_Parts a_Path left).bind g := by
  simp only [l_szSignature.F, grd_bind, cnd_bind, bnd_bind, non_bind]
def l_szSignature (a_Index : Int) (a_Parts : List ByteArray) (a_Path : List ByteArray) (left : Int) : Option Int := l_szSignature.F (fun y0 => some y0) a_Index a_Parts a_Path left
theorem l_szSignature_nat {S : Type} (g : Int → Option S) (a_Index : Int) (a_Parts : List ByteArray) (a_Path : List ByteArray) (left : Int) : l_szSignature.F (fun y0 => g y0) a_Index a_Parts a_Path left = (l_szSignature a_Index a_Parts a_Path left).bind g := l_szSignature.F_nat g (fun y0 => some y0) a_Index a_Parts a_Path left
def l_szSignature.out : Int → CRes := fun a => ⟨encL SV.enc [.one (.int .i64)] (a, ()), [encL SC.enc [] (), encL SC.enc [] ()]⟩
def l_szSignature.ps : List PS := [.val [none, some (.str, false), some (.str, false)], .val [none]]
def l_szSignature.sA : List SA := [.v (.agg [.int .i64, .slv [] .str, .slv [] .str]), .v (.one (.int .i64))]
def l_szSignature.fi : FI := FIs l_szSignature.sA (Int) (fun t => l_szSignature t.1.1 t.1.2.1 t.1.2.2.1 t.2.1) l_szSignature.out l_szSignature.ps
def l_szSignature.E : Env := ⟨tt, lkF [(29, l_szStringS.fi)], 18, 0, [], []⟩
theorem l_szSignature.hok (hE : EOk Tryz.prog (l_szSignature.E)) : HintOk Tryz.prog l_szSignature.E (bodyOf Tryz.f28) (.a) := HintOk.n1 (Q := True) (by kernel_rfl) trivial
theorem l_szSignature.hE : EOk Tryz.prog (l_szSignature.E) := EOk.of ttOk (⟨l_szStringS.fok, trivial⟩)
theorem l_szSignature.fok : FOk Tryz.prog 28 l_szSignature.fi :=
  fokS (E := l_szSignature.E) (wy := ⟨[[none]], [[], []], []⟩) (h := (fun gs => .a)) (G := fun t g => l_szSignature.F (fun y0 => g y0) t.1.1 t.1.2.1 t.1.2.2.1 t.2.1) (by kernel_rfl) l_szSignature.hE Tryz.func28 (by kernel_rfl) rfl (Nat.le_refl _) (fun t => HintOk.n1 (by kernel_rfl) (l_szSignature.hok l_szSignature.hE)) (fun t g => l_szSignature_nat g t.1.1 t.1.2.1 t.1.2.2.1 t.2.1) (fun t => by kernel_rfl)
/-! loop.example_g00220_spec.l01In -/
def s_l01In.F {R : Type} (kk : Bool → Option R) (n_ : Int) (low : Int) (high : Int) : Option R :=
  cond (decide (n_ ≥ low)) (kk (decide (n_ ≤ high))) (kk false)
theorem s_l01In.F_nat {R S : Type} (g : R → Option S) (kk : Bool → Option R) (n_ : Int) (low : Int) (high : Int) : s_l01In.F (fun y0 => (kk y0).bind g) n_ low high = (s_l01In.F kk n_ low high).bind g := by
  simp only [s_l01In.F, grd_bind, cnd_bind, bnd_bind, non_bind]
def s_l01In (n_ : Int) (low : Int) (high : Int) : Option Bool := s_l01In.F (fun y0 => some y0) n_ low high
theorem s_l01In_nat {S : Type} (g : Bool → Option S) (n_ : Int) (low : Int) (high : Int) : s_l01In.F (fun y0 => g y0) n_ low high = (s_l01In n_ low high).bind g := s_l01In.F_nat g (fun y0 => some y0) n_ low high
def s_l01In.out : Bool → CRes := fun a => ⟨encL SV.enc [.one (.bool)] (a, ()), [encL SC.enc [] (), encL SC.enc [] (), encL SC.enc [] ()]⟩
def s_l01In.ps : List PS := [.val [none], .val [none], .val [none]]
def s_l01In.sA : List SA := [.v (.one (.int .i64)), .v (.one (.int .i64)), .v (.one (.int .i64))]
def s_l01In.fi : FI := FIs s_l01In.sA (Bool) (fun t => s_l01In t.1 t.2.1 t.2.2.1) s_l01In.out s_l01In.ps
def s_l01In.E : Env := ⟨tt, lkF [], 15, 0, [], []⟩
theorem s_l01In.hok (hE : EOk Tryz.prog (s_l01In.E)) : HintOk Tryz.prog s_l01In.E (bodyOf Tryz.f63) (.a) := HintOk.n1 (Q := True) (by kernel_rfl) trivial
theorem s_l01In.hE : EOk Tryz.prog (s_l01In.E) := EOk.of ttOk (trivial)
theorem s_l01In.fok : FOk Tryz.prog 63 s_l01In.fi :=
  fokS (E := s_l01In.E) (wy := ⟨[[none]], [[], [], []], []⟩) (h := (fun gs => .a)) (G := fun t g => s_l01In.F (fun y0 => g y0) t.1 t.2.1 t.2.2.1) (by kernel_rfl) s_l01In.hE Tryz.func63 (by kernel_rfl) rfl (Nat.le_refl _) (fun t => HintOk.n1 (by kernel_rfl) (s_l01In.hok s_l01In.hE)) (fun t g => s_l01In_nat g t.1 t.2.1 t.2.2.1) (fun t => by kernel_rfl)
/-! loop.example_g00220_spec.l15Statement -/
def s_l15Statement.F {R : Type} (kk : Bool → Option R) (s_Size : Int) (s_Log : ByteArray) (s_Map : ByteArray) : Option R :=
  (s_l01In s_Size (0 : Int) (50 : Int)).bind fun r =>
  cond (r) (
    cond ((ByteArray.size s_Log : Int) == (32 : Int)) (kk ((ByteArray.size s_Map : Int) == (32 : Int))) (kk false)) (kk false)
theorem s_l15Statement.F_nat {R S : Type} (g : R → Option S) (kk : Bool → Option R) (s_Size : Int) (s_Log : ByteArray) (s_Map : ByteArray) : s_l15Statement.F (fun y0 => (kk y0).bind g) s_Size s_Log s_Map = (s_l15Statement.F kk s_Size s_Log s_Map).bind g := by
  simp only [s_l15Statement.F, grd_bind, cnd_bind, bnd_bind, non_bind]
def s_l15Statement (s_Size : Int) (s_Log : ByteArray) (s_Map : ByteArray) : Option Bool := s_l15Statement.F (fun y0 => some y0) s_Size s_Log s_Map
theorem s_l15Statement_nat {S : Type} (g : Bool → Option S) (s_Size : Int) (s_Log : ByteArray) (s_Map : ByteArray) : s_l15Statement.F (fun y0 => g y0) s_Size s_Log s_Map = (s_l15Statement s_Size s_Log s_Map).bind g := s_l15Statement.F_nat g (fun y0 => some y0) s_Size s_Log s_Map
def s_l15Statement.out : Bool → CRes := fun a => ⟨encL SV.enc [.one (.bool)] (a, ()), [encL SC.enc [] ()]⟩
def s_l15Statement.ps : List PS := [.val [none, none, none]]
def s_l15Statement.sA : List SA := [.v (.agg [.int .i64, .str, .str])]
def s_l15Statement.fi : FI := FIs s_l15Statement.sA (Bool) (fun t => s_l15Statement t.1.1 t.1.2.1 t.1.2.2.1) s_l15Statement.out s_l15Statement.ps
def s_l15Statement.E : Env := ⟨tt, lkF [(63, s_l01In.fi)], 18, 0, [], []⟩
theorem s_l15Statement.hok (hE : EOk Tryz.prog (s_l15Statement.E)) : HintOk Tryz.prog s_l15Statement.E (bodyOf Tryz.f69) (.a) := HintOk.n1 (Q := True) (by kernel_rfl) trivial
theorem s_l15Statement.hE : EOk Tryz.prog (s_l15Statement.E) := EOk.of ttOk (⟨s_l01In.fok, trivial⟩)
theorem s_l15Statement.fok : FOk Tryz.prog 69 s_l15Statement.fi :=
  fokS (E := s_l15Statement.E) (wy := ⟨[[none]], [[]], []⟩) (h := (fun gs => .a)) (G := fun t g => s_l15Statement.F (fun y0 => g y0) t.1.1 t.1.2.1 t.1.2.2.1) (by kernel_rfl) s_l15Statement.hE Tryz.func69 (by kernel_rfl) rfl (Nat.le_refl _) (fun t => HintOk.n1 (by kernel_rfl) (s_l15Statement.hok s_l15Statement.hE)) (fun t g => s_l15Statement_nat g t.1.1 t.1.2.1 t.1.2.2.1) (fun t => by kernel_rfl)
/-! loop.example_g00220_spec.TrustOK -/
def s_TrustOK.F {R : Type} (kk : Bool → Option R) (t_Key : ByteArray) (t_Has : Bool) (t_Size : Int) (t_Log : ByteArray) (t_Map : ByteArray) : Option R :=
  cond ((ByteArray.size t_Key : Int) != (32 : Int)) (kk false) (
    cond (!t_Has) (
      cond (t_Size == (0 : Int)) (cond (sEq t_Log ByteArray.empty) (kk (sEq t_Map ByteArray.empty)) (kk false)) (kk false)) (
      (s_l15Statement t_Size t_Log t_Map).bind fun r =>
      kk r))
theorem s_TrustOK.F_nat {R S : Type} (g : R → Option S) (kk : Bool → Option R) (t_Key : ByteArray) (t_Has : Bool) (t_Size : Int) (t_Log : ByteArray) (t_Map : ByteArray) : s_TrustOK.F (fun y0 => (kk y0).bind g) t_Key t_Has t_Size t_Log t_Map = (s_TrustOK.F kk t_Key t_Has t_Size t_Log t_Map).bind g := by
  simp only [s_TrustOK.F, grd_bind, cnd_bind, bnd_bind, non_bind]
def s_TrustOK (t_Key : ByteArray) (t_Has : Bool) (t_Size : Int) (t_Log : ByteArray) (t_Map : ByteArray) : Option Bool := s_TrustOK.F (fun y0 => some y0) t_Key t_Has t_Size t_Log t_Map
theorem s_TrustOK_nat {S : Type} (g : Bool → Option S) (t_Key : ByteArray) (t_Has : Bool) (t_Size : Int) (t_Log : ByteArray) (t_Map : ByteArray) : s_TrustOK.F (fun y0 => g y0) t_Key t_Has t_Size t_Log t_Map = (s_TrustOK t_Key t_Has t_Size t_Log t_Map).bind g := s_TrustOK.F_nat g (fun y0 => some y0) t_Key t_Has t_Size t_Log t_Map
def s_TrustOK.out : Bool → CRes := fun a => ⟨encL SV.enc [.one (.bool)] (a, ()), [encL SC.enc [] ()]⟩
def s_TrustOK.ps : List PS := [.val [none, none, none, none, none]]
def s_TrustOK.sA : List SA := [.v (.agg [.str, .bool, .int .i64, .str, .str])]
def s_TrustOK.fi : FI := FIs s_TrustOK.sA (Bool) (fun t => s_TrustOK t.1.1 t.1.2.1 t.1.2.2.1 t.1.2.2.2.1 t.1.2.2.2.2.1) s_TrustOK.out s_TrustOK.ps
def s_TrustOK.E : Env := ⟨tt, lkF [(69, s_l15Statement.fi)], 31, 0, [], []⟩
theorem s_TrustOK.hok (hE : EOk Tryz.prog (s_TrustOK.E)) : HintOk Tryz.prog s_TrustOK.E (bodyOf Tryz.f68) (.a) := HintOk.n1 (Q := True) (by kernel_rfl) trivial
theorem s_TrustOK.hE : EOk Tryz.prog (s_TrustOK.E) := EOk.of ttOk (⟨s_l15Statement.fok, trivial⟩)
theorem s_TrustOK.fok : FOk Tryz.prog 68 s_TrustOK.fi :=
  fokS (E := s_TrustOK.E) (wy := ⟨[[none]], [[]], []⟩) (h := (fun gs => .a)) (G := fun t g => s_TrustOK.F (fun y0 => g y0) t.1.1 t.1.2.1 t.1.2.2.1 t.1.2.2.2.1 t.1.2.2.2.2.1) (by kernel_rfl) s_TrustOK.hE Tryz.func68 (by kernel_rfl) rfl (Nat.le_refl _) (fun t => HintOk.n1 (by kernel_rfl) (s_TrustOK.hok s_TrustOK.hE)) (fun t g => s_TrustOK_nat g t.1.1 t.1.2.1 t.1.2.2.1 t.1.2.2.2.1 t.1.2.2.2.2.1) (fun t => by kernel_rfl)
/-! loop.example_g00220_spec.l06Hashes -/
def s_l06Hashes.l1 {R : Type} (kke0 : Option R) (kkr : Bool → Option R) : Nat → List ByteArray → Int → Option R
  | 0, _, _ => none
  | n + 1, list, i =>
    cond (decide (i < (List.length list : Int))) (
      grd (gIx i (List.length list)) <|
      cond ((ByteArray.size (rdE (.str : Kd) list (Int.toNat i)) : Int) != (32 : Int)) (kkr false) (s_l06Hashes.l1 kke0 kkr n list (IntKind.wrap .i64 (i + (1 : Int))))) (kke0)
theorem s_l06Hashes.l1_nat {R S : Type} (g : R → Option S) (kke0 : Option R) (kkr : Bool → Option R) : ∀ (n : Nat) (list : List ByteArray) (i : Int), s_l06Hashes.l1 (kke0.bind g) (fun y0 => (kkr y0).bind g) n list i = (s_l06Hashes.l1 kke0 kkr n list i).bind g := by
  intro n
  induction n with
  | zero => intros; rfl
  | succ n ih => intros; simp only [s_l06Hashes.l1, grd_bind, cnd_bind, bnd_bind, non_bind, ih]
def s_l06Hashes.F {R : Type} (kk : Bool → Option R) (list : List ByteArray) : Option R :=
  cond (decide ((List.length list : Int) > (64 : Int))) (kk false) (s_l06Hashes.l1 (kk true) (fun b => kk b) fuel list (0 : Int))
theorem s_l06Hashes.F_nat {R S : Type} (g : R → Option S) (kk : Bool → Option R) (list : List ByteArray) : s_l06Hashes.F (fun y0 => (kk y0).bind g) list = (s_l06Hashes.F kk list).bind g := by
  simp only [s_l06Hashes.F, grd_bind, cnd_bind, bnd_bind, non_bind, ← s_l06Hashes.l1_nat]
def s_l06Hashes (list : List ByteArray) : Option Bool := s_l06Hashes.F (fun y0 => some y0) list
theorem s_l06Hashes_nat {S : Type} (g : Bool → Option S) (list : List ByteArray) : s_l06Hashes.F (fun y0 => g y0) list = (s_l06Hashes list).bind g := s_l06Hashes.F_nat g (fun y0 => some y0) list
def s_l06Hashes.out : Bool → CRes := fun a => ⟨encL SV.enc [.one (.bool)] (a, ()), [encL SC.enc [] ()]⟩
def s_l06Hashes.ps : List PS := [.val [some (.str, false)]]
def s_l06Hashes.sA : List SA := [.v (.one (.slv [] .str))]
def s_l06Hashes.fi : FI := FIs s_l06Hashes.sA (Bool) (fun t => s_l06Hashes t.1) s_l06Hashes.out s_l06Hashes.ps
def s_l06Hashes.E : Env := ⟨tt, lkF [], 19, 0, [], []⟩
def s_l06Hashes.sh1 : SK := ⟨[.v (.one (.slv [1] .str)), .v (.one (.int .i64))], []⟩
def s_l06Hashes.sh1e0 : SK := ⟨[], []⟩
def s_l06Hashes.sh1r : SK := ⟨[.v (.one (.bool))], []⟩
def s_l06Hashes.ko1 : Ex → List CastAt × List Nat
  | .nrm => ([], [])
  | .ret => ([], [2])
  | .ext i => cond (Nat.beq i 0) ([], []) ([], [])
def s_l06Hashes.G1 (n : Nat) (R : Type) (t : s_l06Hashes.sh1.T) (K : Ex → Kp → Option R) : Option R := s_l06Hashes.l1 (K (.ext 0) (SK.enc s_l06Hashes.sh1e0 ((), ()))) (fun y0 => K .ret (SK.enc s_l06Hashes.sh1r ((y0, ()), ()))) n t.1.1 t.1.2.1
def s_l06Hashes.S1 : Sum := ⟨([], [0, 3]), sumF s_l06Hashes.sh1 (s_l06Hashes.G1 fuel), s_l06Hashes.ko1⟩
theorem s_l06Hashes.ok1 (hE : EOk Tryz.prog (s_l06Hashes.E)) : SumOk Tryz.prog s_l06Hashes.E (cB (cR (cL (cR (cR (bodyOf Tryz.f70)))))) (s_l06Hashes.S1) := by
  have hh : HintOk Tryz.prog s_l06Hashes.E (cB (cB (cR (cL (cR (cR (bodyOf Tryz.f70))))))) (.a) := HintOk.n1 (Q := True) (by kernel_rfl) trivial
  have h := loopS (kin := ([], [0, 3])) (kout := s_l06Hashes.ko1) (sh := s_l06Hashes.sh1) (F := s_l06Hashes.G1) (ops_ok (hE.gv _)) (by kernel_rfl) hh (fun _ _ _ => rfl) (fun n R t K => by kernel_rfl) fuel
  exact HintOk.n1 (c := (cB (cR (cL (cR (cR (bodyOf Tryz.f70))))))) (h := .s (s_l06Hashes.S1)) (P := Tryz.prog) (E := s_l06Hashes.E) (by kernel_rfl) h
theorem s_l06Hashes.hok (hE : EOk Tryz.prog (s_l06Hashes.E)) : HintOk Tryz.prog s_l06Hashes.E (bodyOf Tryz.f70) (.n (.a) (.n (.a) (.n (.n (.a) (.b (.s (s_l06Hashes.S1)))) (.a)))) := HintOk.n1 (Q := (True) ∧ ((True) ∧ (((True) ∧ (SumOk Tryz.prog s_l06Hashes.E (cB (cR (cL (cR (cR (bodyOf Tryz.f70)))))) (s_l06Hashes.S1))) ∧ (True)))) (by kernel_rfl) ⟨trivial, ⟨trivial, ⟨⟨trivial, (s_l06Hashes.ok1 hE)⟩, trivial⟩⟩⟩
theorem s_l06Hashes.hE : EOk Tryz.prog (s_l06Hashes.E) := EOk.of ttOk (trivial)
theorem s_l06Hashes.fok : FOk Tryz.prog 70 s_l06Hashes.fi :=
  fokS (E := s_l06Hashes.E) (wy := ⟨[[none]], [[]], []⟩) (h := (fun gs => .n (.a) (.n (.a) (.n (.n (.a) (.b (.s (s_l06Hashes.S1)))) (.a))))) (G := fun t g => s_l06Hashes.F (fun y0 => g y0) t.1) (by kernel_rfl) s_l06Hashes.hE Tryz.func70 (by kernel_rfl) rfl (Nat.le_refl _) (fun t => HintOk.n1 (by kernel_rfl) (s_l06Hashes.hok s_l06Hashes.hE)) (fun t g => s_l06Hashes_nat g t.1) (fun t => by kernel_rfl)
/-! loop.example_g00220_spec.l08Index -/
def s_l08Index.F {R : Type} (kk : Bool → Option R) (index : Int) : Option R :=
  (s_l01In index (0 : Int) (3 : Int)).bind fun r =>
  kk r
theorem s_l08Index.F_nat {R S : Type} (g : R → Option S) (kk : Bool → Option R) (index : Int) : s_l08Index.F (fun y0 => (kk y0).bind g) index = (s_l08Index.F kk index).bind g := by
  simp only [s_l08Index.F, grd_bind, cnd_bind, bnd_bind, non_bind]
def s_l08Index (index : Int) : Option Bool := s_l08Index.F (fun y0 => some y0) index
theorem s_l08Index_nat {S : Type} (g : Bool → Option S) (index : Int) : s_l08Index.F (fun y0 => g y0) index = (s_l08Index index).bind g := s_l08Index.F_nat g (fun y0 => some y0) index
def s_l08Index.out : Bool → CRes := fun a => ⟨encL SV.enc [.one (.bool)] (a, ()), [encL SC.enc [] ()]⟩
def s_l08Index.ps : List PS := [.val [none]]
def s_l08Index.sA : List SA := [.v (.one (.int .i64))]
def s_l08Index.fi : FI := FIs s_l08Index.sA (Bool) (fun t => s_l08Index t.1) s_l08Index.out s_l08Index.ps
def s_l08Index.E : Env := ⟨tt, lkF [(63, s_l01In.fi)], 5, 0, [], []⟩
theorem s_l08Index.hok (hE : EOk Tryz.prog (s_l08Index.E)) : HintOk Tryz.prog s_l08Index.E (bodyOf Tryz.f114) (.a) := HintOk.n1 (Q := True) (by kernel_rfl) trivial
theorem s_l08Index.hE : EOk Tryz.prog (s_l08Index.E) := EOk.of ttOk (⟨s_l01In.fok, trivial⟩)
theorem s_l08Index.fok : FOk Tryz.prog 114 s_l08Index.fi :=
  fokS (E := s_l08Index.E) (wy := ⟨[[none]], [[]], []⟩) (h := (fun gs => .a)) (G := fun t g => s_l08Index.F (fun y0 => g y0) t.1) (by kernel_rfl) s_l08Index.hE Tryz.func114 (by kernel_rfl) rfl (Nat.le_refl _) (fun t => HintOk.n1 (by kernel_rfl) (s_l08Index.hok s_l08Index.hE)) (fun t g => s_l08Index_nat g t.1) (fun t => by kernel_rfl)
/-! loop.example_g00220_spec.l01Consts -/
def s_l01Consts.F {R : Type} (kk : List Int → Option R) : Option R :=
  kk [(1116352408 : Int), (1899447441 : Int), (3049323471 : Int), (3921009573 : Int), (961987163 : Int), (1508970993 : Int), (2453635748 : Int), (2870763221 : Int), (3624381080 : Int), (310598401 : Int), (607225278 : Int), (1426881987 : Int), (1925078388 : Int), (2162078206 : Int), (2614888103 : Int), (3248222580 : Int), (3835390401 : Int), (4022224774 : Int), (264347078 : Int), (604807628 : Int), (770255983 : Int), (1249150122 : Int), (1555081692 : Int), (1996064986 : Int), (2554220882 : Int), (2821834349 : Int), (2952996808 : Int), (3210313671 : Int), (3336571891 : Int), (3584528711 : Int), (113926993 : Int), (338241895 : Int), (666307205 : Int), (773529912 : Int), (1294757372 : Int), (1396182291 : Int), (1695183700 : Int), (1986661051 : Int), (2177026350 : Int), (2456956037 : Int), (2730485921 : Int), (2820302411 : Int), (3259730800 : Int), (3345764771 : Int), (3516065817 : Int), (3600352804 : Int), (4094571909 : Int), (275423344 : Int), (430227734 : Int), (506948616 : Int), (659060556 : Int), (883997877 : Int), (958139571 : Int), (1322822218 : Int), (1537002063 : Int), (1747873779 : Int), (1955562222 : Int), (2024104815 : Int), (2227730452 : Int), (2361852424 : Int), (2428436474 : Int), (2756734187 : Int), (3204031479 : Int), (3329325298 : Int)]
theorem s_l01Consts.F_nat {R S : Type} (g : R → Option S) (kk : List Int → Option R) : s_l01Consts.F (fun y0 => (kk y0).bind g) = (s_l01Consts.F kk).bind g := by
  simp only [s_l01Consts.F, grd_bind, cnd_bind, bnd_bind, non_bind]
def s_l01Consts : Option (List Int) := s_l01Consts.F (fun y0 => some y0)
theorem s_l01Consts_nat {S : Type} (g : (List Int) → Option S) : s_l01Consts.F (fun y0 => g y0) = (s_l01Consts).bind g := s_l01Consts.F_nat g (fun y0 => some y0)
def s_l01Consts.out : (List Int) → CRes := fun a => ⟨encL SV.enc [.one (.own [] (.int .u32) true)] (a, ()), []⟩
def s_l01Consts.ps : List PS := []
def s_l01Consts.sA : List SA := []
def s_l01Consts.fi : FI := FIs s_l01Consts.sA (List Int) (fun t => s_l01Consts) s_l01Consts.out s_l01Consts.ps
def s_l01Consts.E : Env := ⟨tt, lkF [], 2, 0, [], []⟩
theorem s_l01Consts.hok (hE : EOk Tryz.prog (s_l01Consts.E)) : HintOk Tryz.prog s_l01Consts.E (bodyOf Tryz.f200) (.a) := HintOk.n1 (Q := True) (by kernel_rfl) trivial
theorem s_l01Consts.hE : EOk Tryz.prog (s_l01Consts.E) := EOk.of ttOk (trivial)
theorem s_l01Consts.fok : FOk Tryz.prog 200 s_l01Consts.fi :=
  fokS (E := s_l01Consts.E) (wy := ⟨[[some ((.int .u32), true)]], [], []⟩) (h := (fun gs => .a)) (G := fun t g => s_l01Consts.F (fun y0 => g y0)) (by kernel_rfl) s_l01Consts.hE Tryz.func200 (by kernel_rfl) rfl (Nat.le_refl _) (fun t => HintOk.n1 (by kernel_rfl) (s_l01Consts.hok s_l01Consts.hE)) (fun t g => s_l01Consts_nat g) (fun t => by kernel_rfl)
/-! loop.example_g00220_spec.l01Turn -/
def s_l01Turn.F {R : Type} (kk : Int → Option R) (x : Int) (n_ : Int) : Option R :=
  grd (gSh n_) <|
  grd (gSh (IntKind.wrap .u64 ((32 : Int) - n_))) <|
  kk (iOr .u32 (iShr .u32 x n_) (iShl .u32 x (IntKind.wrap .u64 ((32 : Int) - n_))))
theorem s_l01Turn.F_nat {R S : Type} (g : R → Option S) (kk : Int → Option R) (x : Int) (n_ : Int) : s_l01Turn.F (fun y0 => (kk y0).bind g) x n_ = (s_l01Turn.F kk x n_).bind g := by
  simp only [s_l01Turn.F, grd_bind, cnd_bind, bnd_bind, non_bind]
def s_l01Turn (x : Int) (n_ : Int) : Option Int := s_l01Turn.F (fun y0 => some y0) x n_
theorem s_l01Turn_nat {S : Type} (g : Int → Option S) (x : Int) (n_ : Int) : s_l01Turn.F (fun y0 => g y0) x n_ = (s_l01Turn x n_).bind g := s_l01Turn.F_nat g (fun y0 => some y0) x n_
def s_l01Turn.out : Int → CRes := fun a => ⟨encL SV.enc [.one (.int .u32)] (a, ()), [encL SC.enc [] (), encL SC.enc [] ()]⟩
def s_l01Turn.ps : List PS := [.val [none], .val [none]]
def s_l01Turn.sA : List SA := [.v (.one (.int .u32)), .v (.one (.int .u64))]
def s_l01Turn.fi : FI := FIs s_l01Turn.sA (Int) (fun t => s_l01Turn t.1 t.2.1) s_l01Turn.out s_l01Turn.ps
def s_l01Turn.E : Env := ⟨tt, lkF [], 13, 0, [], []⟩
theorem s_l01Turn.hok (hE : EOk Tryz.prog (s_l01Turn.E)) : HintOk Tryz.prog s_l01Turn.E (bodyOf Tryz.f220) (.a) := HintOk.n1 (Q := True) (by kernel_rfl) trivial
theorem s_l01Turn.hE : EOk Tryz.prog (s_l01Turn.E) := EOk.of ttOk (trivial)
theorem s_l01Turn.fok : FOk Tryz.prog 220 s_l01Turn.fi :=
  fokS (E := s_l01Turn.E) (wy := ⟨[[none]], [[], []], []⟩) (h := (fun gs => .a)) (G := fun t g => s_l01Turn.F (fun y0 => g y0) t.1 t.2.1) (by kernel_rfl) s_l01Turn.hE Tryz.func220 (by kernel_rfl) rfl (Nat.le_refl _) (fun t => HintOk.n1 (by kernel_rfl) (s_l01Turn.hok s_l01Turn.hE)) (fun t g => s_l01Turn_nat g t.1 t.2.1) (fun t => by kernel_rfl)
/-! loop.example_g00220_spec.l01Block -/
def s_l01Block.l1 {R : Type} (kke0 : List Int → List Int → List Int → Option R) : Nat → List Int → List Int → Int → List Int → List Int → Option R
  | 0, _, _, _, _, _ => none
  | n + 1, b, k_, i, h, w =>
    cond (decide (i < (16 : Int))) (
      grd (gIx (IntKind.wrap .i64 ((4 : Int) * i)) (List.length b)) <|
      grd (gSh (24 : Int)) <|
      grd (gIx (IntKind.wrap .i64 ((IntKind.wrap .i64 ((4 : Int) * i)) + (1 : Int))) (List.length b)) <|
      grd (gSh (16 : Int)) <|
      grd (gIx (IntKind.wrap .i64 ((IntKind.wrap .i64 ((4 : Int) * i)) + (2 : Int))) (List.length b)) <|
      grd (gSh (8 : Int)) <|
      grd (gIx (IntKind.wrap .i64 ((IntKind.wrap .i64 ((4 : Int) * i)) + (3 : Int))) (List.length b)) <|
      grd (gIx i (List.length w)) <|
      s_l01Block.l1 kke0 n b k_ (IntKind.wrap .i64 (i + (1 : Int))) h (setE (.int .u32 : Kd) w (Int.toNat i) (iOr .u32 (iOr .u32 (iOr .u32 (iShl .u32 (IntKind.wrap .u32 (rdE (.int .u8 : Kd) b (Int.toNat (IntKind.wrap .i64 ((4 : Int) * i))))) (24 : Int)) (iShl .u32 (IntKind.wrap .u32 (rdE (.int .u8 : Kd) b (Int.toNat (IntKind.wrap .i64 ((IntKind.wrap .i64 ((4 : Int) * i)) + (1 : Int)))))) (16 : Int))) (iShl .u32 (IntKind.wrap .u32 (rdE (.int .u8 : Kd) b (Int.toNat (IntKind.wrap .i64 ((IntKind.wrap .i64 ((4 : Int) * i)) + (2 : Int)))))) (8 : Int))) (IntKind.wrap .u32 (rdE (.int .u8 : Kd) b (Int.toNat (IntKind.wrap .i64 ((IntKind.wrap .i64 ((4 : Int) * i)) + (3 : Int))))))))) (kke0 k_ h w)
theorem s_l01Block.l1_nat {R S : Type} (g : R → Option S) (kke0 : List Int → List Int → List Int → Option R) : ∀ (n : Nat) (b : List Int) (k_ : List Int) (i : Int) (h : List Int) (w : List Int), s_l01Block.l1 (fun y0 y1 y2 => (kke0 y0 y1 y2).bind g) n b k_ i h w = (s_l01Block.l1 kke0 n b k_ i h w).bind g := by
  intro n
  induction n with
  | zero => intros; rfl
  | succ n ih => intros; simp only [s_l01Block.l1, grd_bind, cnd_bind, bnd_bind, non_bind, ih]
def s_l01Block.l2 {R : Type} (kke2 : List Int → List Int → List Int → Option R) : Nat → List Int → Int → List Int → List Int → Option R
  | 0, _, _, _, _ => none
  | n + 1, k_, i, h, w =>
    cond (decide (i < (64 : Int))) (
      grd (gIx (IntKind.wrap .i64 (i - (15 : Int))) (List.length w)) <|
      grd (gIx (IntKind.wrap .i64 (i - (2 : Int))) (List.length w)) <|
      grd (gIx (IntKind.wrap .i64 (i - (16 : Int))) (List.length w)) <|
      (s_l01Turn (rdE (.int .u32 : Kd) w (Int.toNat (IntKind.wrap .i64 (i - (15 : Int))))) (7 : Int)).bind fun r =>
      (s_l01Turn (rdE (.int .u32 : Kd) w (Int.toNat (IntKind.wrap .i64 (i - (15 : Int))))) (18 : Int)).bind fun r1 =>
      grd (gSh (3 : Int)) <|
      grd (gIx (IntKind.wrap .i64 (i - (7 : Int))) (List.length w)) <|
      (s_l01Turn (rdE (.int .u32 : Kd) w (Int.toNat (IntKind.wrap .i64 (i - (2 : Int))))) (17 : Int)).bind fun r2 =>
      (s_l01Turn (rdE (.int .u32 : Kd) w (Int.toNat (IntKind.wrap .i64 (i - (2 : Int))))) (19 : Int)).bind fun r3 =>
      grd (gSh (10 : Int)) <|
      grd (gIx i (List.length w)) <|
      s_l01Block.l2 kke2 n k_ (IntKind.wrap .i64 (i + (1 : Int))) h (setE (.int .u32 : Kd) w (Int.toNat i) (IntKind.wrap .u32 ((IntKind.wrap .u32 ((IntKind.wrap .u32 ((rdE (.int .u32 : Kd) w (Int.toNat (IntKind.wrap .i64 (i - (16 : Int))))) + (iXor .u32 (iXor .u32 r r1) (iShr .u32 (rdE (.int .u32 : Kd) w (Int.toNat (IntKind.wrap .i64 (i - (15 : Int))))) (3 : Int))))) + (rdE (.int .u32 : Kd) w (Int.toNat (IntKind.wrap .i64 (i - (7 : Int))))))) + (iXor .u32 (iXor .u32 r2 r3) (iShr .u32 (rdE (.int .u32 : Kd) w (Int.toNat (IntKind.wrap .i64 (i - (2 : Int))))) (10 : Int))))))) (kke2 k_ h w)
theorem s_l01Block.l2_nat {R S : Type} (g : R → Option S) (kke2 : List Int → List Int → List Int → Option R) : ∀ (n : Nat) (k_ : List Int) (i : Int) (h : List Int) (w : List Int), s_l01Block.l2 (fun y0 y1 y2 => (kke2 y0 y1 y2).bind g) n k_ i h w = (s_l01Block.l2 kke2 n k_ i h w).bind g := by
  intro n
  induction n with
  | zero => intros; rfl
  | succ n ih => intros; simp only [s_l01Block.l2, grd_bind, cnd_bind, bnd_bind, non_bind, ih]
def s_l01Block.l3 {R : Type} (kke4 : List Int → List Int → Option R) : Nat → List Int → Int → List Int → List Int → List Int → Option R
  | 0, _, _, _, _, _ => none
  | n + 1, k_, i, h, w, v =>
    cond (decide (i < (64 : Int))) (
      grd (gIx (4 : Int) (List.length v)) <|
      grd (gIx (0 : Int) (List.length v)) <|
      grd (gIx (7 : Int) (List.length v)) <|
      (s_l01Turn (rdE (.int .u32 : Kd) v (Int.toNat (4 : Int))) (6 : Int)).bind fun r =>
      (s_l01Turn (rdE (.int .u32 : Kd) v (Int.toNat (4 : Int))) (11 : Int)).bind fun r1 =>
      (s_l01Turn (rdE (.int .u32 : Kd) v (Int.toNat (4 : Int))) (25 : Int)).bind fun r2 =>
      grd (gIx (5 : Int) (List.length v)) <|
      grd (gIx (6 : Int) (List.length v)) <|
      grd (gIx i (List.length k_)) <|
      grd (gIx i (List.length w)) <|
      (s_l01Turn (rdE (.int .u32 : Kd) v (Int.toNat (0 : Int))) (2 : Int)).bind fun r3 =>
      (s_l01Turn (rdE (.int .u32 : Kd) v (Int.toNat (0 : Int))) (13 : Int)).bind fun r4 =>
      (s_l01Turn (rdE (.int .u32 : Kd) v (Int.toNat (0 : Int))) (22 : Int)).bind fun r5 =>
      grd (gIx (1 : Int) (List.length v)) <|
      grd (gIx (2 : Int) (List.length v)) <|
      grd (gIx (1 : Int) (List.length v)) <|
      grd (gIx (2 : Int) (List.length v)) <|
      grd (gIx (0 : Int) (List.length v)) <|
      grd (gIx (1 : Int) (List.length v)) <|
      grd (gIx (2 : Int) (List.length v)) <|
      grd (gIx (3 : Int) (List.length v)) <|
      grd (gIx (4 : Int) (List.length v)) <|
      grd (gIx (5 : Int) (List.length v)) <|
      grd (gIx (6 : Int) (List.length v)) <|
      s_l01Block.l3 kke4 n k_ (IntKind.wrap .i64 (i + (1 : Int))) h w [IntKind.wrap .u32 ((IntKind.wrap .u32 ((IntKind.wrap .u32 ((IntKind.wrap .u32 ((IntKind.wrap .u32 ((rdE (.int .u32 : Kd) v (Int.toNat (7 : Int))) + (iXor .u32 (iXor .u32 r r1) r2))) + (iXor .u32 (iAnd .u32 (rdE (.int .u32 : Kd) v (Int.toNat (4 : Int))) (rdE (.int .u32 : Kd) v (Int.toNat (5 : Int)))) (iAnd .u32 (iXor .u32 (IntKind.max .u32) (rdE (.int .u32 : Kd) v (Int.toNat (4 : Int)))) (rdE (.int .u32 : Kd) v (Int.toNat (6 : Int))))))) + (rdE (.int .u32 : Kd) k_ (Int.toNat i)))) + (rdE (.int .u32 : Kd) w (Int.toNat i)))) + (IntKind.wrap .u32 ((iXor .u32 (iXor .u32 r3 r4) r5) + (iXor .u32 (iXor .u32 (iAnd .u32 (rdE (.int .u32 : Kd) v (Int.toNat (0 : Int))) (rdE (.int .u32 : Kd) v (Int.toNat (1 : Int)))) (iAnd .u32 (rdE (.int .u32 : Kd) v (Int.toNat (0 : Int))) (rdE (.int .u32 : Kd) v (Int.toNat (2 : Int))))) (iAnd .u32 (rdE (.int .u32 : Kd) v (Int.toNat (1 : Int))) (rdE (.int .u32 : Kd) v (Int.toNat (2 : Int)))))))), rdE (.int .u32 : Kd) v (Int.toNat (0 : Int)), rdE (.int .u32 : Kd) v (Int.toNat (1 : Int)), rdE (.int .u32 : Kd) v (Int.toNat (2 : Int)), IntKind.wrap .u32 ((rdE (.int .u32 : Kd) v (Int.toNat (3 : Int))) + (IntKind.wrap .u32 ((IntKind.wrap .u32 ((IntKind.wrap .u32 ((IntKind.wrap .u32 ((rdE (.int .u32 : Kd) v (Int.toNat (7 : Int))) + (iXor .u32 (iXor .u32 r r1) r2))) + (iXor .u32 (iAnd .u32 (rdE (.int .u32 : Kd) v (Int.toNat (4 : Int))) (rdE (.int .u32 : Kd) v (Int.toNat (5 : Int)))) (iAnd .u32 (iXor .u32 (IntKind.max .u32) (rdE (.int .u32 : Kd) v (Int.toNat (4 : Int)))) (rdE (.int .u32 : Kd) v (Int.toNat (6 : Int))))))) + (rdE (.int .u32 : Kd) k_ (Int.toNat i)))) + (rdE (.int .u32 : Kd) w (Int.toNat i))))), rdE (.int .u32 : Kd) v (Int.toNat (4 : Int)), rdE (.int .u32 : Kd) v (Int.toNat (5 : Int)), rdE (.int .u32 : Kd) v (Int.toNat (6 : Int))]) (kke4 h v)
theorem s_l01Block.l3_nat {R S : Type} (g : R → Option S) (kke4 : List Int → List Int → Option R) : ∀ (n : Nat) (k_ : List Int) (i : Int) (h : List Int) (w : List Int) (v : List Int), s_l01Block.l3 (fun y0 y1 => (kke4 y0 y1).bind g) n k_ i h w v = (s_l01Block.l3 kke4 n k_ i h w v).bind g := by
  intro n
  induction n with
  | zero => intros; rfl
  | succ n ih => intros; simp only [s_l01Block.l3, grd_bind, cnd_bind, bnd_bind, non_bind, ih]
def s_l01Block.l4 {R : Type} (kke6 : List Int → Option R) : Nat → Int → List Int → List Int → Option R
  | 0, _, _, _ => none
  | n + 1, i, h, v =>
    cond (decide (i < (8 : Int))) (
      grd (gIx i (List.length h)) <|
      grd (gIx i (List.length v)) <|
      grd (gIx i (List.length h)) <|
      s_l01Block.l4 kke6 n (IntKind.wrap .i64 (i + (1 : Int))) (setE (.int .u32 : Kd) h (Int.toNat i) (IntKind.wrap .u32 ((rdE (.int .u32 : Kd) h (Int.toNat i)) + (rdE (.int .u32 : Kd) v (Int.toNat i))))) v) (kke6 h)
theorem s_l01Block.l4_nat {R S : Type} (g : R → Option S) (kke6 : List Int → Option R) : ∀ (n : Nat) (i : Int) (h : List Int) (v : List Int), s_l01Block.l4 (fun y0 => (kke6 y0).bind g) n i h v = (s_l01Block.l4 kke6 n i h v).bind g := by
  intro n
  induction n with
  | zero => intros; rfl
  | succ n ih => intros; simp only [s_l01Block.l4, grd_bind, cnd_bind, bnd_bind, non_bind, ih]
def s_l01Block.F {R : Type} (kk : List Int → Option R) (h : List Int) (b : List Int) (k_ : List Int) : Option R :=
  grd (gMk (64 : Int) (64 : Int) 4) <|
  s_l01Block.l1 (fun k_1 h1 w =>
    s_l01Block.l2 (fun k_2 h2 w1 =>
      grd (gRm (((List.length ([] : List Int)) + (List.length h2)) * 4)) <|
      s_l01Block.l3 (fun h3 v => s_l01Block.l4 (fun h4 => kk h4) fuel (0 : Int) h3 v) fuel k_2 (0 : Int) h2 w1 (([] : List Int) ++ h2)) fuel k_1 (16 : Int) h1 w) fuel b k_ (0 : Int) h (List.replicate (Int.toNat (64 : Int)) (0 : Int))
theorem s_l01Block.F_nat {R S : Type} (g : R → Option S) (kk : List Int → Option R) (h : List Int) (b : List Int) (k_ : List Int) : s_l01Block.F (fun y0 => (kk y0).bind g) h b k_ = (s_l01Block.F kk h b k_).bind g := by
  simp only [s_l01Block.F, grd_bind, cnd_bind, bnd_bind, non_bind, ← s_l01Block.l1_nat, ← s_l01Block.l2_nat, ← s_l01Block.l3_nat, ← s_l01Block.l4_nat]
theorem s_l01Block_ex : ∃ f : List Int → List Int → List Int → Option (List Int), f = fun (h : List Int) (b : List Int) (k_ : List Int) => s_l01Block.F (fun y0 => some y0) h b k_ := ⟨_, rfl⟩
/-- Chosen, so that the kernel does not unfold it. -/
noncomputable def s_l01Block : List Int → List Int → List Int → Option (List Int) := Classical.choose s_l01Block_ex
theorem s_l01Block_eq (h : List Int) (b : List Int) (k_ : List Int) : s_l01Block h b k_ = s_l01Block.F (fun y0 => some y0) h b k_ := (congrFun (congrFun (congrFun (Classical.choose_spec s_l01Block_ex) h) b) k_)
theorem s_l01Block_nat {S : Type} (g : (List Int) → Option S) (h : List Int) (b : List Int) (k_ : List Int) : s_l01Block.F (fun y0 => g y0) h b k_ = (s_l01Block h b k_).bind g := by
  rw [s_l01Block_eq]
  exact s_l01Block.F_nat g (fun y0 => some y0) h b k_
def s_l01Block.out : (List Int) → CRes := fun a => ⟨encL SV.enc [] (), [encL SC.enc [.own [] (.int .u32) true] (a, ()), encL SC.enc [] (), encL SC.enc [] ()]⟩
def s_l01Block.ps : List PS := [.val [some ((.int .u32), true)], .val [some ((.int .u8), false)], .val [some ((.int .u32), false)]]
def s_l01Block.sA : List SA := [.v (.one (.own [] (.int .u32) true)), .v (.one (.slv [] (.int .u8))), .v (.one (.slv [] (.int .u32)))]
def s_l01Block.fi : FI := FIs s_l01Block.sA (List Int) (fun t => s_l01Block t.1 t.2.1 t.2.2.1) s_l01Block.out s_l01Block.ps
def s_l01Block.E : Env := ⟨tt, lkF [(220, s_l01Turn.fi)], 222, 1, [], []⟩
def s_l01Block.sh1 : SK := ⟨[.v (.one (.slo 0)), .v (.one (.slv [2] (.int .u8))), .v (.one (.slv [3] (.int .u32))), .v (.one (.slo 1)), .v (.one (.int .i64))], [.arr (.int .u32) [] true, .arr (.int .u32) [] true]⟩
def s_l01Block.sh1e0 : SK := ⟨[.v (.one (.slo 0)), .v (.one (.slv [3] (.int .u32))), .v (.one (.slo 1))], [.arr (.int .u32) [] true, .arr (.int .u32) [] true]⟩
def s_l01Block.ko1 : Ex → List CastAt × List Nat
  | .nrm => ([], [])
  | .ret => ([], [])
  | .ext i => cond (Nat.beq i 0) ([], [0, 2, 6]) ([], [])
def s_l01Block.G1 (n : Nat) (R : Type) (t : s_l01Block.sh1.T) (K : Ex → Kp → Option R) : Option R := s_l01Block.l1 (fun y0 y1 y2 => K (.ext 0) (SK.enc s_l01Block.sh1e0 (((), y0, (), ()), (y1, y2, ())))) n t.1.2.1 t.1.2.2.1 t.1.2.2.2.2.1 t.2.1 t.2.2.1
def s_l01Block.S1 : Sum := ⟨([], [0, 1, 2, 6, 7]), sumF s_l01Block.sh1 (s_l01Block.G1 fuel), s_l01Block.ko1⟩
theorem s_l01Block.ok1 (hE : EOk Tryz.prog (s_l01Block.E)) : SumOk Tryz.prog s_l01Block.E (cB (cR (cL (cR (bodyOf Tryz.f201))))) (s_l01Block.S1) := by
  have hh : HintOk Tryz.prog s_l01Block.E (cB (cB (cR (cL (cR (bodyOf Tryz.f201)))))) (.a) := HintOk.n1 (Q := True) (by kernel_rfl) trivial
  have h := loopS (kin := ([], [0, 1, 2, 6, 7])) (kout := s_l01Block.ko1) (sh := s_l01Block.sh1) (F := s_l01Block.G1) (ops_ok (hE.gv _)) (by kernel_rfl) hh (fun _ _ _ => rfl) (fun n R t K => by kernel_rfl) fuel
  exact HintOk.n1 (c := (cB (cR (cL (cR (bodyOf Tryz.f201)))))) (h := .s (s_l01Block.S1)) (P := Tryz.prog) (E := s_l01Block.E) (by kernel_rfl) h
def s_l01Block.sh2 : SK := ⟨[.v (.one (.slo 0)), .v (.one (.slv [3] (.int .u32))), .v (.one (.slo 1)), .v (.one (.int .i64))], [.arr (.int .u32) [] true, .arr (.int .u32) [] true]⟩
def s_l01Block.sh2e2 : SK := ⟨[.v (.one (.slo 0)), .v (.one (.slv [3] (.int .u32))), .v (.one (.slo 1))], [.arr (.int .u32) [] true, .arr (.int .u32) [] true]⟩
def s_l01Block.ko2 : Ex → List CastAt × List Nat
  | .nrm => ([], [])
  | .ret => ([], [])
  | .ext i => cond (Nat.beq i 2) ([], [0, 2, 6]) ([], [])
def s_l01Block.G2 (n : Nat) (R : Type) (t : s_l01Block.sh2.T) (K : Ex → Kp → Option R) : Option R := s_l01Block.l2 (fun y0 y1 y2 => K (.ext 2) (SK.enc s_l01Block.sh2e2 (((), y0, (), ()), (y1, y2, ())))) n t.1.2.1 t.1.2.2.2.1 t.2.1 t.2.2.1
def s_l01Block.S2 : Sum := ⟨([], [0, 2, 6, 8]), sumF s_l01Block.sh2 (s_l01Block.G2 fuel), s_l01Block.ko2⟩
theorem s_l01Block.ok2 (hE : EOk Tryz.prog (s_l01Block.E)) : SumOk Tryz.prog s_l01Block.E (cB (cR (cL (cR (cR (bodyOf Tryz.f201)))))) (s_l01Block.S2) := by
  have hh : HintOk Tryz.prog s_l01Block.E (cB (cB (cR (cL (cR (cR (bodyOf Tryz.f201))))))) (.a) := HintOk.n1 (Q := True) (by kernel_rfl) trivial
  have h := loopS (kin := ([], [0, 2, 6, 8])) (kout := s_l01Block.ko2) (sh := s_l01Block.sh2) (F := s_l01Block.G2) (ops_ok (hE.gv _)) (by kernel_rfl) hh (fun _ _ _ => rfl) (fun n R t K => by kernel_rfl) fuel
  exact HintOk.n1 (c := (cB (cR (cL (cR (cR (bodyOf Tryz.f201))))))) (h := .s (s_l01Block.S2)) (P := Tryz.prog) (E := s_l01Block.E) (by kernel_rfl) h
def s_l01Block.sh3 : SK := ⟨[.v (.one (.slo 0)), .v (.one (.slv [3] (.int .u32))), .v (.one (.slo 1)), .v (.one (.slo 2)), .v (.one (.int .i64))], [.arr (.int .u32) [] true, .arr (.int .u32) [] true, .arr (.int .u32) [] true]⟩
def s_l01Block.sh3e4 : SK := ⟨[.v (.one (.slo 0)), .v (.one (.slo 1))], [.arr (.int .u32) [] true, .arr (.int .u32) [] true]⟩
def s_l01Block.ko3 : Ex → List CastAt × List Nat
  | .nrm => ([], [])
  | .ret => ([], [])
  | .ext i => cond (Nat.beq i 4) ([], [0, 11]) ([], [])
def s_l01Block.G3 (n : Nat) (R : Type) (t : s_l01Block.sh3.T) (K : Ex → Kp → Option R) : Option R := s_l01Block.l3 (fun y0 y1 => K (.ext 4) (SK.enc s_l01Block.sh3e4 (((), (), ()), (y0, y1, ())))) n t.1.2.1 t.1.2.2.2.2.1 t.2.1 t.2.2.1 t.2.2.2.1
def s_l01Block.S3 : Sum := ⟨([], [0, 2, 6, 11, 12]), sumF s_l01Block.sh3 (s_l01Block.G3 fuel), s_l01Block.ko3⟩
theorem s_l01Block.ok3 (hE : EOk Tryz.prog (s_l01Block.E)) : SumOk Tryz.prog s_l01Block.E (cB (cR (cL (cR (cR (cR (cR (bodyOf Tryz.f201)))))))) (s_l01Block.S3) := by
  have hh : HintOk Tryz.prog s_l01Block.E (cB (cB (cR (cL (cR (cR (cR (cR (bodyOf Tryz.f201))))))))) (.a) := HintOk.n1 (Q := True) (by kernel_rfl) trivial
  have h := loopS (kin := ([], [0, 2, 6, 11, 12])) (kout := s_l01Block.ko3) (sh := s_l01Block.sh3) (F := s_l01Block.G3) (ops_ok (hE.gv _)) (by kernel_rfl) hh (fun _ _ _ => rfl) (fun n R t K => by kernel_rfl) fuel
  exact HintOk.n1 (c := (cB (cR (cL (cR (cR (cR (cR (bodyOf Tryz.f201))))))))) (h := .s (s_l01Block.S3)) (P := Tryz.prog) (E := s_l01Block.E) (by kernel_rfl) h
def s_l01Block.sh4 : SK := ⟨[.v (.one (.slo 0)), .v (.one (.slo 1)), .v (.one (.int .i64))], [.arr (.int .u32) [] true, .arr (.int .u32) [] true]⟩
def s_l01Block.sh4e6 : SK := ⟨[], [.arr (.int .u32) [] true]⟩
def s_l01Block.ko4 : Ex → List CastAt × List Nat
  | .nrm => ([], [])
  | .ret => ([], [])
  | .ext i => cond (Nat.beq i 6) ([], []) ([], [])
def s_l01Block.G4 (n : Nat) (R : Type) (t : s_l01Block.sh4.T) (K : Ex → Kp → Option R) : Option R := s_l01Block.l4 (fun y0 => K (.ext 6) (SK.enc s_l01Block.sh4e6 ((), (y0, ())))) n t.1.2.2.1 t.2.1 t.2.2.1
def s_l01Block.S4 : Sum := ⟨([], [0, 11, 17]), sumF s_l01Block.sh4 (s_l01Block.G4 fuel), s_l01Block.ko4⟩
theorem s_l01Block.ok4 (hE : EOk Tryz.prog (s_l01Block.E)) : SumOk Tryz.prog s_l01Block.E (cB (cR (cR (cR (cR (cR (cR (bodyOf Tryz.f201)))))))) (s_l01Block.S4) := by
  have hh : HintOk Tryz.prog s_l01Block.E (cB (cB (cR (cR (cR (cR (cR (cR (bodyOf Tryz.f201))))))))) (.a) := HintOk.n1 (Q := True) (by kernel_rfl) trivial
  have h := loopS (kin := ([], [0, 11, 17])) (kout := s_l01Block.ko4) (sh := s_l01Block.sh4) (F := s_l01Block.G4) (ops_ok (hE.gv _)) (by kernel_rfl) hh (fun _ _ _ => rfl) (fun n R t K => by kernel_rfl) fuel
  exact HintOk.n1 (c := (cB (cR (cR (cR (cR (cR (cR (bodyOf Tryz.f201))))))))) (h := .s (s_l01Block.S4)) (P := Tryz.prog) (E := s_l01Block.E) (by kernel_rfl) h
theorem s_l01Block.hok (hE : EOk Tryz.prog (s_l01Block.E)) : HintOk Tryz.prog s_l01Block.E (bodyOf Tryz.f201) (.n (.a) (.n (.n (.a) (.b (.s (s_l01Block.S1)))) (.n (.n (.a) (.b (.s (s_l01Block.S2)))) (.n (.a) (.n (.n (.a) (.b (.s (s_l01Block.S3)))) (.n (.a) (.b (.s (s_l01Block.S4))))))))) := HintOk.n1 (Q := (True) ∧ (((True) ∧ (SumOk Tryz.prog s_l01Block.E (cB (cR (cL (cR (bodyOf Tryz.f201))))) (s_l01Block.S1))) ∧ (((True) ∧ (SumOk Tryz.prog s_l01Block.E (cB (cR (cL (cR (cR (bodyOf Tryz.f201)))))) (s_l01Block.S2))) ∧ ((True) ∧ (((True) ∧ (SumOk Tryz.prog s_l01Block.E (cB (cR (cL (cR (cR (cR (cR (bodyOf Tryz.f201)))))))) (s_l01Block.S3))) ∧ ((True) ∧ (SumOk Tryz.prog s_l01Block.E (cB (cR (cR (cR (cR (cR (cR (bodyOf Tryz.f201)))))))) (s_l01Block.S4)))))))) (by kernel_rfl) ⟨trivial, ⟨⟨trivial, (s_l01Block.ok1 hE)⟩, ⟨⟨trivial, (s_l01Block.ok2 hE)⟩, ⟨trivial, ⟨⟨trivial, (s_l01Block.ok3 hE)⟩, ⟨trivial, (s_l01Block.ok4 hE)⟩⟩⟩⟩⟩⟩
theorem s_l01Block.hE : EOk Tryz.prog (s_l01Block.E) := EOk.of ttOk (⟨s_l01Turn.fok, trivial⟩)
theorem s_l01Block.fok : FOk Tryz.prog 201 s_l01Block.fi :=
  fokS (E := s_l01Block.E) (wy := ⟨[], [[], [], []], []⟩) (h := (fun gs => .n (.a) (.n (.n (.a) (.b (.s (s_l01Block.S1)))) (.n (.n (.a) (.b (.s (s_l01Block.S2)))) (.n (.a) (.n (.n (.a) (.b (.s (s_l01Block.S3)))) (.n (.a) (.b (.s (s_l01Block.S4)))))))))) (G := fun t g => s_l01Block.F (fun y0 => g y0) t.1 t.2.1 t.2.2.1) (by kernel_rfl) s_l01Block.hE Tryz.func201 (by kernel_rfl) rfl (Nat.le_refl _) (fun t => HintOk.n1 (by kernel_rfl) (s_l01Block.hok s_l01Block.hE)) (fun t g => s_l01Block_nat g t.1 t.2.1 t.2.2.1) (fun t => by kernel_rfl)
/-! loop.example_g00220_spec.l01Hash -/
def s_l01Hash.l1 {R : Type} (kke0 : List Int → List Int → List Int → Option R) : Nat → List Int → List Int → List Int → Option R
  | 0, _, _, _ => none
  | n + 1, b, h, all =>
    grd (gNz (64 : Int)) <|
    cond ((Int.tmod (List.length all : Int) (64 : Int)) != (56 : Int)) (
      grd (gRm (((List.length all) + (List.length [(0 : Int)])) * 1)) <|
      s_l01Hash.l1 kke0 n b h (all ++ [(0 : Int)])) (kke0 b h all)
theorem s_l01Hash.l1_nat {R S : Type} (g : R → Option S) (kke0 : List Int → List Int → List Int → Option R) : ∀ (n : Nat) (b : List Int) (h : List Int) (all : List Int), s_l01Hash.l1 (fun y0 y1 y2 => (kke0 y0 y1 y2).bind g) n b h all = (s_l01Hash.l1 kke0 n b h all).bind g := by
  intro n
  induction n with
  | zero => intros; rfl
  | succ n ih => intros; simp only [s_l01Hash.l1, grd_bind, cnd_bind, bnd_bind, non_bind, ih]
def s_l01Hash.l2 {R : Type} (kke2 : List Int → List Int → Option R) : Nat → List Int → Int → List Int → List Int → Option R
  | 0, _, _, _, _ => none
  | n + 1, b, i, h, all =>
    cond (decide (i ≥ (0 : Int))) (
      grd (gSh (IntKind.wrap .u64 (IntKind.wrap .i64 ((8 : Int) * i)))) <|
      grd (gRm (((List.length all) + (List.length [IntKind.wrap .u8 (iShr .i64 (IntKind.wrap .i64 ((8 : Int) * (List.length b : Int))) (IntKind.wrap .u64 (IntKind.wrap .i64 ((8 : Int) * i))))])) * 1)) <|
      s_l01Hash.l2 kke2 n b (IntKind.wrap .i64 (i - (1 : Int))) h (all ++ [IntKind.wrap .u8 (iShr .i64 (IntKind.wrap .i64 ((8 : Int) * (List.length b : Int))) (IntKind.wrap .u64 (IntKind.wrap .i64 ((8 : Int) * i))))])) (kke2 h all)
theorem s_l01Hash.l2_nat {R S : Type} (g : R → Option S) (kke2 : List Int → List Int → Option R) : ∀ (n : Nat) (b : List Int) (i : Int) (h : List Int) (all : List Int), s_l01Hash.l2 (fun y0 y1 => (kke2 y0 y1).bind g) n b i h all = (s_l01Hash.l2 kke2 n b i h all).bind g := by
  intro n
  induction n with
  | zero => intros; rfl
  | succ n ih => intros; simp only [s_l01Hash.l2, grd_bind, cnd_bind, bnd_bind, non_bind, ih]
def s_l01Hash.l3 {R : Type} (kke4 : List Int → Option R) : Nat → List Int → Int → List Int → List Int → Option R
  | 0, _, _, _, _ => none
  | n + 1, all, i, h, k_ =>
    cond (decide (i < (List.length all : Int))) (
      grd (gSl i (IntKind.wrap .i64 (i + (64 : Int))) (List.length all)) <|
      (s_l01Block h (sub all i (IntKind.wrap .i64 (i + (64 : Int)))) k_).bind fun r =>
      s_l01Hash.l3 kke4 n all (IntKind.wrap .i64 (i + (64 : Int))) r k_) (kke4 h)
theorem s_l01Hash.l3_nat {R S : Type} (g : R → Option S) (kke4 : List Int → Option R) : ∀ (n : Nat) (all : List Int) (i : Int) (h : List Int) (k_ : List Int), s_l01Hash.l3 (fun y0 => (kke4 y0).bind g) n all i h k_ = (s_l01Hash.l3 kke4 n all i h k_).bind g := by
  intro n
  induction n with
  | zero => intros; rfl
  | succ n ih => intros; simp only [s_l01Hash.l3, grd_bind, cnd_bind, bnd_bind, non_bind, ih]
def s_l01Hash.l4 {R : Type} (kke6 : List Int → Option R) : Nat → Int → List Int → List Int → Option R
  | 0, _, _, _ => none
  | n + 1, i, h, out =>
    cond (decide (i < (8 : Int))) (
      grd (gIx i (List.length h)) <|
      grd (gSh (24 : Int)) <|
      grd (gIx i (List.length h)) <|
      grd (gSh (16 : Int)) <|
      grd (gIx i (List.length h)) <|
      grd (gSh (8 : Int)) <|
      grd (gIx i (List.length h)) <|
      grd (gRm (((List.length out) + (List.length [IntKind.wrap .u8 (iShr .u32 (rdE (.int .u32 : Kd) h (Int.toNat i)) (24 : Int)), IntKind.wrap .u8 (iShr .u32 (rdE (.int .u32 : Kd) h (Int.toNat i)) (16 : Int)), IntKind.wrap .u8 (iShr .u32 (rdE (.int .u32 : Kd) h (Int.toNat i)) (8 : Int)), IntKind.wrap .u8 (rdE (.int .u32 : Kd) h (Int.toNat i))])) * 1)) <|
      s_l01Hash.l4 kke6 n (IntKind.wrap .i64 (i + (1 : Int))) h (out ++ [IntKind.wrap .u8 (iShr .u32 (rdE (.int .u32 : Kd) h (Int.toNat i)) (24 : Int)), IntKind.wrap .u8 (iShr .u32 (rdE (.int .u32 : Kd) h (Int.toNat i)) (16 : Int)), IntKind.wrap .u8 (iShr .u32 (rdE (.int .u32 : Kd) h (Int.toNat i)) (8 : Int)), IntKind.wrap .u8 (rdE (.int .u32 : Kd) h (Int.toNat i))])) (kke6 out)
theorem s_l01Hash.l4_nat {R S : Type} (g : R → Option S) (kke6 : List Int → Option R) : ∀ (n : Nat) (i : Int) (h : List Int) (out : List Int), s_l01Hash.l4 (fun y0 => (kke6 y0).bind g) n i h out = (s_l01Hash.l4 kke6 n i h out).bind g := by
  intro n
  induction n with
  | zero => intros; rfl
  | succ n ih => intros; simp only [s_l01Hash.l4, grd_bind, cnd_bind, bnd_bind, non_bind, ih]
def s_l01Hash.F {R : Type} (kk : ByteArray → Option R) (b : List Int) : Option R :=
  grd (gRm (((List.length ([] : List Int)) + (List.length b)) * 1)) <|
  grd (gRm (((List.length (([] : List Int) ++ b)) + (List.length [(128 : Int)])) * 1)) <|
  s_l01Hash.l1 (fun b1 h all =>
    s_l01Hash.l2 (fun h1 all1 =>
      (s_l01Consts).bind fun r =>
      s_l01Hash.l3 (fun h2 => s_l01Hash.l4 (fun out => kk (strL out)) fuel (0 : Int) h2 ([] : List Int)) fuel all1 (0 : Int) h1 r) fuel b1 (7 : Int) h all) fuel b [(1779033703 : Int), (3144134277 : Int), (1013904242 : Int), (2773480762 : Int), (1359893119 : Int), (2600822924 : Int), (528734635 : Int), (1541459225 : Int)] ((([] : List Int) ++ b) ++ [(128 : Int)])
theorem s_l01Hash.F_nat {R S : Type} (g : R → Option S) (kk : ByteArray → Option R) (b : List Int) : s_l01Hash.F (fun y0 => (kk y0).bind g) b = (s_l01Hash.F kk b).bind g := by
  simp only [s_l01Hash.F, grd_bind, cnd_bind, bnd_bind, non_bind, ← s_l01Hash.l1_nat, ← s_l01Hash.l2_nat, ← s_l01Hash.l3_nat, ← s_l01Hash.l4_nat]
theorem s_l01Hash_ex : ∃ f : List Int → Option ByteArray, f = fun (b : List Int) => s_l01Hash.F (fun y0 => some y0) b := ⟨_, rfl⟩
/-- Chosen, so that the kernel does not unfold it. -/
noncomputable def s_l01Hash : List Int → Option ByteArray := Classical.choose s_l01Hash_ex
theorem s_l01Hash_eq (b : List Int) : s_l01Hash b = s_l01Hash.F (fun y0 => some y0) b := (congrFun (Classical.choose_spec s_l01Hash_ex) b)
theorem s_l01Hash_nat {S : Type} (g : ByteArray → Option S) (b : List Int) : s_l01Hash.F (fun y0 => g y0) b = (s_l01Hash b).bind g := by
  rw [s_l01Hash_eq]
  exact s_l01Hash.F_nat g (fun y0 => some y0) b
def s_l01Hash.out : ByteArray → CRes := fun a => ⟨encL SV.enc [.one (.str)] (a, ()), [encL SC.enc [] ()]⟩
def s_l01Hash.ps : List PS := [.val [some ((.int .u8), false)]]
def s_l01Hash.sA : List SA := [.v (.one (.slv [] (.int .u8)))]
def s_l01Hash.fi : FI := FIs s_l01Hash.sA (ByteArray) (fun t => s_l01Hash t.1) s_l01Hash.out s_l01Hash.ps
def s_l01Hash.E : Env := ⟨tt, lkF [(200, s_l01Consts.fi), (201, s_l01Block.fi)], 86, 0, [], []⟩
def s_l01Hash.sh1 : SK := ⟨[.v (.one (.slv [1] (.int .u8))), .v (.one (.slo 0)), .v (.one (.slo 1))], [.arr (.int .u32) [] true, .arr (.int .u8) [] true]⟩
def s_l01Hash.sh1e0 : SK := ⟨[.v (.one (.slv [1] (.int .u8))), .v (.one (.slo 0)), .v (.one (.slo 1))], [.arr (.int .u32) [] true, .arr (.int .u8) [] true]⟩
def s_l01Hash.ko1 : Ex → List CastAt × List Nat
  | .nrm => ([], [])
  | .ret => ([], [])
  | .ext i => cond (Nat.beq i 0) ([], [0, 3, 4]) ([], [])
def s_l01Hash.G1 (n : Nat) (R : Type) (t : s_l01Hash.sh1.T) (K : Ex → Kp → Option R) : Option R := s_l01Hash.l1 (fun y0 y1 y2 => K (.ext 0) (SK.enc s_l01Hash.sh1e0 ((y0, (), (), ()), (y1, y2, ())))) n t.1.1 t.2.1 t.2.2.1
def s_l01Hash.S1 : Sum := ⟨([], [0, 3, 4]), sumF s_l01Hash.sh1 (s_l01Hash.G1 fuel), s_l01Hash.ko1⟩
theorem s_l01Hash.ok1 (hE : EOk Tryz.prog (s_l01Hash.E)) : SumOk Tryz.prog s_l01Hash.E (cB (cL (cR (cR (cR (bodyOf Tryz.f162)))))) (s_l01Hash.S1) := by
  have hh : HintOk Tryz.prog s_l01Hash.E (cB (cB (cL (cR (cR (cR (bodyOf Tryz.f162))))))) (.a) := HintOk.n1 (Q := True) (by kernel_rfl) trivial
  have h := loopS (kin := ([], [0, 3, 4])) (kout := s_l01Hash.ko1) (sh := s_l01Hash.sh1) (F := s_l01Hash.G1) (ops_ok (hE.gv _)) (by kernel_rfl) hh (fun _ _ _ => rfl) (fun n R t K => by kernel_rfl) fuel
  exact HintOk.n1 (c := (cB (cL (cR (cR (cR (bodyOf Tryz.f162))))))) (h := .s (s_l01Hash.S1)) (P := Tryz.prog) (E := s_l01Hash.E) (by kernel_rfl) h
def s_l01Hash.sh2 : SK := ⟨[.v (.one (.slv [1] (.int .u8))), .v (.one (.slo 0)), .v (.one (.slo 1)), .v (.one (.int .i64))], [.arr (.int .u32) [] true, .arr (.int .u8) [] true]⟩
def s_l01Hash.sh2e2 : SK := ⟨[.v (.one (.slo 0)), .v (.one (.slo 1))], [.arr (.int .u32) [] true, .arr (.int .u8) [] true]⟩
def s_l01Hash.ko2 : Ex → List CastAt × List Nat
  | .nrm => ([], [])
  | .ret => ([], [])
  | .ext i => cond (Nat.beq i 2) ([], [3, 4]) ([], [])
def s_l01Hash.G2 (n : Nat) (R : Type) (t : s_l01Hash.sh2.T) (K : Ex → Kp → Option R) : Option R := s_l01Hash.l2 (fun y0 y1 => K (.ext 2) (SK.enc s_l01Hash.sh2e2 (((), (), ()), (y0, y1, ())))) n t.1.1 t.1.2.2.2.1 t.2.1 t.2.2.1
def s_l01Hash.S2 : Sum := ⟨([], [0, 3, 4, 5]), sumF s_l01Hash.sh2 (s_l01Hash.G2 fuel), s_l01Hash.ko2⟩
theorem s_l01Hash.ok2 (hE : EOk Tryz.prog (s_l01Hash.E)) : SumOk Tryz.prog s_l01Hash.E (cB (cR (cL (cR (cR (cR (cR (bodyOf Tryz.f162)))))))) (s_l01Hash.S2) := by
  have hh : HintOk Tryz.prog s_l01Hash.E (cB (cB (cR (cL (cR (cR (cR (cR (bodyOf Tryz.f162))))))))) (.a) := HintOk.n1 (Q := True) (by kernel_rfl) trivial
  have h := loopS (kin := ([], [0, 3, 4, 5])) (kout := s_l01Hash.ko2) (sh := s_l01Hash.sh2) (F := s_l01Hash.G2) (ops_ok (hE.gv _)) (by kernel_rfl) hh (fun _ _ _ => rfl) (fun n R t K => by kernel_rfl) fuel
  exact HintOk.n1 (c := (cB (cR (cL (cR (cR (cR (cR (bodyOf Tryz.f162))))))))) (h := .s (s_l01Hash.S2)) (P := Tryz.prog) (E := s_l01Hash.E) (by kernel_rfl) h
def s_l01Hash.sh3 : SK := ⟨[.v (.one (.slo 0)), .v (.one (.slv [0] (.int .u8))), .v (.one (.slo 1)), .v (.one (.int .i64))], [.arr (.int .u32) [] true, .arr (.int .u32) [] true]⟩
def s_l01Hash.sh3e4 : SK := ⟨[.v (.one (.slo 0))], [.arr (.int .u32) [] true]⟩
def s_l01Hash.ko3 : Ex → List CastAt × List Nat
  | .nrm => ([], [])
  | .ret => ([], [])
  | .ext i => cond (Nat.beq i 4) ([], [3]) ([], [])
def s_l01Hash.G3 (n : Nat) (R : Type) (t : s_l01Hash.sh3.T) (K : Ex → Kp → Option R) : Option R := s_l01Hash.l3 (fun y0 => K (.ext 4) (SK.enc s_l01Hash.sh3e4 (((), ()), (y0, ())))) n t.1.2.1 t.1.2.2.2.1 t.2.1 t.2.2.1
def s_l01Hash.S3 : Sum := ⟨([⟨4, false, 0, .slv [0] (.int .u8)⟩], [3, 4, 6, 7]), sumF s_l01Hash.sh3 (s_l01Hash.G3 fuel), s_l01Hash.ko3⟩
theorem s_l01Hash.ok3 (hE : EOk Tryz.prog (s_l01Hash.E)) : SumOk Tryz.prog s_l01Hash.E (cB (cR (cL (cR (cR (cR (cR (cR (cR (bodyOf Tryz.f162)))))))))) (s_l01Hash.S3) := by
  have hh : HintOk Tryz.prog s_l01Hash.E (cB (cB (cR (cL (cR (cR (cR (cR (cR (cR (bodyOf Tryz.f162))))))))))) (.a) := HintOk.n1 (Q := True) (by kernel_rfl) trivial
  have h := loopS (kin := ([⟨4, false, 0, .slv [0] (.int .u8)⟩], [3, 4, 6, 7])) (kout := s_l01Hash.ko3) (sh := s_l01Hash.sh3) (F := s_l01Hash.G3) (ops_ok (hE.gv _)) (by kernel_rfl) hh (fun _ _ _ => rfl) (fun n R t K => by kernel_rfl) fuel
  exact HintOk.n1 (c := (cB (cR (cL (cR (cR (cR (cR (cR (cR (bodyOf Tryz.f162))))))))))) (h := .s (s_l01Hash.S3)) (P := Tryz.prog) (E := s_l01Hash.E) (by kernel_rfl) h
def s_l01Hash.sh4 : SK := ⟨[.v (.one (.slo 0)), .v (.one (.slo 1)), .v (.one (.int .i64))], [.arr (.int .u32) [] true, .arr (.int .u8) [] true]⟩
def s_l01Hash.sh4e6 : SK := ⟨[.v (.one (.slo 0))], [.arr (.int .u8) [] true]⟩
def s_l01Hash.ko4 : Ex → List CastAt × List Nat
  | .nrm => ([], [])
  | .ret => ([], [])
  | .ext i => cond (Nat.beq i 6) ([], [8]) ([], [])
def s_l01Hash.G4 (n : Nat) (R : Type) (t : s_l01Hash.sh4.T) (K : Ex → Kp → Option R) : Option R := s_l01Hash.l4 (fun y0 => K (.ext 6) (SK.enc s_l01Hash.sh4e6 (((), ()), (y0, ())))) n t.1.2.2.1 t.2.1 t.2.2.1
def s_l01Hash.S4 : Sum := ⟨([], [3, 8, 9]), sumF s_l01Hash.sh4 (s_l01Hash.G4 fuel), s_l01Hash.ko4⟩
theorem s_l01Hash.ok4 (hE : EOk Tryz.prog (s_l01Hash.E)) : SumOk Tryz.prog s_l01Hash.E (cB (cR (cL (cR (cR (cR (cR (cR (cR (cR (cR (bodyOf Tryz.f162)))))))))))) (s_l01Hash.S4) := by
  have hh : HintOk Tryz.prog s_l01Hash.E (cB (cB (cR (cL (cR (cR (cR (cR (cR (cR (cR (cR (bodyOf Tryz.f162))))))))))))) (.a) := HintOk.n1 (Q := True) (by kernel_rfl) trivial
  have h := loopS (kin := ([], [3, 8, 9])) (kout := s_l01Hash.ko4) (sh := s_l01Hash.sh4) (F := s_l01Hash.G4) (ops_ok (hE.gv _)) (by kernel_rfl) hh (fun _ _ _ => rfl) (fun n R t K => by kernel_rfl) fuel
  exact HintOk.n1 (c := (cB (cR (cL (cR (cR (cR (cR (cR (cR (cR (cR (bodyOf Tryz.f162))))))))))))) (h := .s (s_l01Hash.S4)) (P := Tryz.prog) (E := s_l01Hash.E) (by kernel_rfl) h
theorem s_l01Hash.hok (hE : EOk Tryz.prog (s_l01Hash.E)) : HintOk Tryz.prog s_l01Hash.E (bodyOf Tryz.f162) (.n (.a) (.n (.a) (.n (.a) (.n (.b (.s (s_l01Hash.S1))) (.n (.n (.a) (.b (.s (s_l01Hash.S2)))) (.n (.a) (.n (.n (.a) (.b (.s (s_l01Hash.S3)))) (.n (.a) (.n (.n (.a) (.b (.s (s_l01Hash.S4)))) (.a)))))))))) := HintOk.n1 (Q := (True) ∧ ((True) ∧ ((True) ∧ ((SumOk Tryz.prog s_l01Hash.E (cB (cL (cR (cR (cR (bodyOf Tryz.f162)))))) (s_l01Hash.S1)) ∧ (((True) ∧ (SumOk Tryz.prog s_l01Hash.E (cB (cR (cL (cR (cR (cR (cR (bodyOf Tryz.f162)))))))) (s_l01Hash.S2))) ∧ ((True) ∧ (((True) ∧ (SumOk Tryz.prog s_l01Hash.E (cB (cR (cL (cR (cR (cR (cR (cR (cR (bodyOf Tryz.f162)))))))))) (s_l01Hash.S3))) ∧ ((True) ∧ (((True) ∧ (SumOk Tryz.prog s_l01Hash.E (cB (cR (cL (cR (cR (cR (cR (cR (cR (cR (cR (bodyOf Tryz.f162)))))))))))) (s_l01Hash.S4))) ∧ (True)))))))))) (by kernel_rfl) ⟨trivial, ⟨trivial, ⟨trivial, ⟨(s_l01Hash.ok1 hE), ⟨⟨trivial, (s_l01Hash.ok2 hE)⟩, ⟨trivial, ⟨⟨trivial, (s_l01Hash.ok3 hE)⟩, ⟨trivial, ⟨⟨trivial, (s_l01Hash.ok4 hE)⟩, trivial⟩⟩⟩⟩⟩⟩⟩⟩⟩
theorem s_l01Hash.hE : EOk Tryz.prog (s_l01Hash.E) := EOk.of ttOk (⟨s_l01Consts.fok, ⟨s_l01Block.fok, trivial⟩⟩)
theorem s_l01Hash.fok : FOk Tryz.prog 162 s_l01Hash.fi :=
  fokS (E := s_l01Hash.E) (wy := ⟨[[none]], [[]], []⟩) (h := (fun gs => .n (.a) (.n (.a) (.n (.a) (.n (.b (.s (s_l01Hash.S1))) (.n (.n (.a) (.b (.s (s_l01Hash.S2)))) (.n (.a) (.n (.n (.a) (.b (.s (s_l01Hash.S3)))) (.n (.a) (.n (.n (.a) (.b (.s (s_l01Hash.S4)))) (.a))))))))))) (G := fun t g => s_l01Hash.F (fun y0 => g y0) t.1) (by kernel_rfl) s_l01Hash.hE Tryz.func162 (by kernel_rfl) rfl (Nat.le_refl _) (fun t => HintOk.n1 (by kernel_rfl) (s_l01Hash.hok s_l01Hash.hE)) (fun t g => s_l01Hash_nat g t.1) (fun t => by kernel_rfl)
/-! loop.example_g00220_spec.l08Digits -/
def s_l08Digits.l1 {R : Type} (kke0 : Int → List Int → Option R) : Nat → ByteArray → Int → Int → List Int → Option R
  | 0, _, _, _, _ => none
  | n + 1, h, sum, i, out =>
    cond (decide (i < (8 : Int))) (
      grd (gIx i (ByteArray.size h)) <|
      grd (gNz (16 : Int)) <|
      grd (gIx i (ByteArray.size h)) <|
      grd (gNz (16 : Int)) <|
      grd (gRm (((List.length out) + (List.length [IntKind.wrap .i64 (IntKind.wrap .u8 (Int.tdiv (byteAt h i) (16 : Int))), IntKind.wrap .i64 (Int.tmod (byteAt h i) (16 : Int))])) * 8)) <|
      s_l08Digits.l1 kke0 n h sum (IntKind.wrap .i64 (i + (1 : Int))) (out ++ [IntKind.wrap .i64 (IntKind.wrap .u8 (Int.tdiv (byteAt h i) (16 : Int))), IntKind.wrap .i64 (Int.tmod (byteAt h i) (16 : Int))])) (kke0 sum out)
theorem s_l08Digits.l1_nat {R S : Type} (g : R → Option S) (kke0 : Int → List Int → Option R) : ∀ (n : Nat) (h : ByteArray) (sum : Int) (i : Int) (out : List Int), s_l08Digits.l1 (fun y0 y1 => (kke0 y0 y1).bind g) n h sum i out = (s_l08Digits.l1 kke0 n h sum i out).bind g := by
  intro n
  induction n with
  | zero => intros; rfl
  | succ n ih => intros; simp only [s_l08Digits.l1, grd_bind, cnd_bind, bnd_bind, non_bind, ih]
def s_l08Digits.l2 {R : Type} (kke2 : Int → List Int → Option R) : Nat → Int → Int → List Int → Option R
  | 0, _, _, _ => none
  | n + 1, sum, i, out =>
    cond (decide (i < (16 : Int))) (
      grd (gIx i (List.length out)) <|
      s_l08Digits.l2 kke2 n (IntKind.wrap .i64 (sum + (IntKind.wrap .i64 ((15 : Int) - (rdE (.int .i64 : Kd) out (Int.toNat i)))))) (IntKind.wrap .i64 (i + (1 : Int))) out) (kke2 sum out)
theorem s_l08Digits.l2_nat {R S : Type} (g : R → Option S) (kke2 : Int → List Int → Option R) : ∀ (n : Nat) (sum : Int) (i : Int) (out : List Int), s_l08Digits.l2 (fun y0 y1 => (kke2 y0 y1).bind g) n sum i out = (s_l08Digits.l2 kke2 n sum i out).bind g := by
  intro n
  induction n with
  | zero => intros; rfl
  | succ n ih => intros; simp only [s_l08Digits.l2, grd_bind, cnd_bind, bnd_bind, non_bind, ih]
def s_l08Digits.F {R : Type} (kk : List Int → Option R) (msg : ByteArray) : Option R :=
  (s_l01Hash (bytesL msg)).bind fun r =>
  s_l08Digits.l1 (fun sum out =>
    s_l08Digits.l2 (fun sum1 out1 =>
      grd (gNz (16 : Int)) <|
      grd (gNz (16 : Int)) <|
      grd (gRm (((List.length out1) + (List.length [IntKind.wrap .i64 (Int.tdiv sum1 (16 : Int)), Int.tmod sum1 (16 : Int)])) * 8)) <|
      kk (out1 ++ [IntKind.wrap .i64 (Int.tdiv sum1 (16 : Int)), Int.tmod sum1 (16 : Int)])) fuel sum (0 : Int) out) fuel r (0 : Int) (0 : Int) ([] : List Int)
theorem s_l08Digits.F_nat {R S : Type} (g : R → Option S) (kk : List Int → Option R) (msg : ByteArray) : s_l08Digits.F (fun y0 => (kk y0).bind g) msg = (s_l08Digits.F kk msg).bind g := by
  simp only [s_l08Digits.F, grd_bind, cnd_bind, bnd_bind, non_bind, ← s_l08Digits.l1_nat, ← s_l08Digits.l2_nat]
def s_l08Digits (msg : ByteArray) : Option (List Int) := s_l08Digits.F (fun y0 => some y0) msg
theorem s_l08Digits_nat {S : Type} (g : (List Int) → Option S) (msg : ByteArray) : s_l08Digits.F (fun y0 => g y0) msg = (s_l08Digits msg).bind g := s_l08Digits.F_nat g (fun y0 => some y0) msg
def s_l08Digits.out : (List Int) → CRes := fun a => ⟨encL SV.enc [.one (.own [] (.int .i64) true)] (a, ()), [encL SC.enc [] ()]⟩
def s_l08Digits.ps : List PS := [.val [none]]
def s_l08Digits.sA : List SA := [.v (.one (.str))]
def s_l08Digits.fi : FI := FIs s_l08Digits.sA (List Int) (fun t => s_l08Digits t.1) s_l08Digits.out s_l08Digits.ps
def s_l08Digits.E : Env := ⟨tt, lkF [(162, s_l01Hash.fi)], 47, 0, [], []⟩
def s_l08Digits.sh1 : SK := ⟨[.v (.one (.str)), .v (.one (.slo 0)), .v (.one (.int .i64)), .v (.one (.int .i64))], [.arr (.int .i64) [] true]⟩
def s_l08Digits.sh1e0 : SK := ⟨[.v (.one (.slo 0)), .v (.one (.int .i64))], [.arr (.int .i64) [] true]⟩
def s_l08Digits.ko1 : Ex → List CastAt × List Nat
  | .nrm => ([], [])
  | .ret => ([], [])
  | .ext i => cond (Nat.beq i 0) ([], [4, 5]) ([], [])
def s_l08Digits.G1 (n : Nat) (R : Type) (t : s_l08Digits.sh1.T) (K : Ex → Kp → Option R) : Option R := s_l08Digits.l1 (fun y0 y1 => K (.ext 0) (SK.enc s_l08Digits.sh1e0 (((), y0, ()), (y1, ())))) n t.1.1 t.1.2.2.1 t.1.2.2.2.1 t.2.1
def s_l08Digits.S1 : Sum := ⟨([], [3, 4, 5, 6]), sumF s_l08Digits.sh1 (s_l08Digits.G1 fuel), s_l08Digits.ko1⟩
theorem s_l08Digits.ok1 (hE : EOk Tryz.prog (s_l08Digits.E)) : SumOk Tryz.prog s_l08Digits.E (cB (cR (cL (cR (cR (cR (cR (bodyOf Tryz.f158)))))))) (s_l08Digits.S1) := by
  have hh : HintOk Tryz.prog s_l08Digits.E (cB (cB (cR (cL (cR (cR (cR (cR (bodyOf Tryz.f158))))))))) (.a) := HintOk.n1 (Q := True) (by kernel_rfl) trivial
  have h := loopS (kin := ([], [3, 4, 5, 6])) (kout := s_l08Digits.ko1) (sh := s_l08Digits.sh1) (F := s_l08Digits.G1) (ops_ok (hE.gv _)) (by kernel_rfl) hh (fun _ _ _ => rfl) (fun n R t K => by kernel_rfl) fuel
  exact HintOk.n1 (c := (cB (cR (cL (cR (cR (cR (cR (bodyOf Tryz.f158))))))))) (h := .s (s_l08Digits.S1)) (P := Tryz.prog) (E := s_l08Digits.E) (by kernel_rfl) h
def s_l08Digits.sh2 : SK := ⟨[.v (.one (.slo 0)), .v (.one (.int .i64)), .v (.one (.int .i64))], [.arr (.int .i64) [] true]⟩
def s_l08Digits.sh2e2 : SK := ⟨[.v (.one (.slo 0)), .v (.one (.int .i64))], [.arr (.int .i64) [] true]⟩
def s_l08Digits.ko2 : Ex → List CastAt × List Nat
  | .nrm => ([], [])
  | .ret => ([], [])
  | .ext i => cond (Nat.beq i 2) ([], [4, 5]) ([], [])
def s_l08Digits.G2 (n : Nat) (R : Type) (t : s_l08Digits.sh2.T) (K : Ex → Kp → Option R) : Option R := s_l08Digits.l2 (fun y0 y1 => K (.ext 2) (SK.enc s_l08Digits.sh2e2 (((), y0, ()), (y1, ())))) n t.1.2.1 t.1.2.2.1 t.2.1
def s_l08Digits.S2 : Sum := ⟨([], [4, 5, 7]), sumF s_l08Digits.sh2 (s_l08Digits.G2 fuel), s_l08Digits.ko2⟩
theorem s_l08Digits.ok2 (hE : EOk Tryz.prog (s_l08Digits.E)) : SumOk Tryz.prog s_l08Digits.E (cB (cR (cL (cR (cR (cR (cR (cR (bodyOf Tryz.f158))))))))) (s_l08Digits.S2) := by
  have hh : HintOk Tryz.prog s_l08Digits.E (cB (cB (cR (cL (cR (cR (cR (cR (cR (bodyOf Tryz.f158)))))))))) (.a) := HintOk.n1 (Q := True) (by kernel_rfl) trivial
  have h := loopS (kin := ([], [4, 5, 7])) (kout := s_l08Digits.ko2) (sh := s_l08Digits.sh2) (F := s_l08Digits.G2) (ops_ok (hE.gv _)) (by kernel_rfl) hh (fun _ _ _ => rfl) (fun n R t K => by kernel_rfl) fuel
  exact HintOk.n1 (c := (cB (cR (cL (cR (cR (cR (cR (cR (bodyOf Tryz.f158)))))))))) (h := .s (s_l08Digits.S2)) (P := Tryz.prog) (E := s_l08Digits.E) (by kernel_rfl) h
theorem s_l08Digits.hok (hE : EOk Tryz.prog (s_l08Digits.E)) : HintOk Tryz.prog s_l08Digits.E (bodyOf Tryz.f158) (.n (.a) (.n (.a) (.n (.a) (.n (.a) (.n (.n (.a) (.b (.s (s_l08Digits.S1)))) (.n (.n (.a) (.b (.s (s_l08Digits.S2)))) (.a))))))) := HintOk.n1 (Q := (True) ∧ ((True) ∧ ((True) ∧ ((True) ∧ (((True) ∧ (SumOk Tryz.prog s_l08Digits.E (cB (cR (cL (cR (cR (cR (cR (bodyOf Tryz.f158)))))))) (s_l08Digits.S1))) ∧ (((True) ∧ (SumOk Tryz.prog s_l08Digits.E (cB (cR (cL (cR (cR (cR (cR (cR (bodyOf Tryz.f158))))))))) (s_l08Digits.S2))) ∧ (True))))))) (by kernel_rfl) ⟨trivial, ⟨trivial, ⟨trivial, ⟨trivial, ⟨⟨trivial, (s_l08Digits.ok1 hE)⟩, ⟨⟨trivial, (s_l08Digits.ok2 hE)⟩, trivial⟩⟩⟩⟩⟩⟩
theorem s_l08Digits.hE : EOk Tryz.prog (s_l08Digits.E) := EOk.of ttOk (⟨s_l01Hash.fok, trivial⟩)
theorem s_l08Digits.fok : FOk Tryz.prog 158 s_l08Digits.fi :=
  fokS (E := s_l08Digits.E) (wy := ⟨[[some ((.int .i64), true)]], [[]], []⟩) (h := (fun gs => .n (.a) (.n (.a) (.n (.a) (.n (.a) (.n (.n (.a) (.b (.s (s_l08Digits.S1)))) (.n (.n (.a) (.b (.s (s_l08Digits.S2)))) (.a)))))))) (G := fun t g => s_l08Digits.F (fun y0 => g y0) t.1) (by kernel_rfl) s_l08Digits.hE Tryz.func158 (by kernel_rfl) rfl (Nat.le_refl _) (fun t => HintOk.n1 (by kernel_rfl) (s_l08Digits.hok s_l08Digits.hE)) (fun t g => s_l08Digits_nat g t.1) (fun t => by kernel_rfl)
/-! loop.example_g00220_spec.l08Chain -/
def s_l08Chain.l1 {R : Type} (kke0 : ByteArray → Option R) : Nat → ByteArray → Int → Int → Int → Option R
  | 0, _, _, _, _ => none
  | n + 1, h, from_, steps, i =>
    cond (decide (i < steps)) (
      grd (gRm (((List.length [(3 : Int), IntKind.wrap .u8 (IntKind.wrap .i64 (from_ + i))]) + (List.length (bytesL h))) * 1)) <|
      (s_l01Hash ([(3 : Int), IntKind.wrap .u8 (IntKind.wrap .i64 (from_ + i))] ++ (bytesL h))).bind fun r =>
      s_l08Chain.l1 kke0 n r from_ steps (IntKind.wrap .i64 (i + (1 : Int)))) (kke0 h)
theorem s_l08Chain.l1_nat {R S : Type} (g : R → Option S) (kke0 : ByteArray → Option R) : ∀ (n : Nat) (h : ByteArray) (from_ : Int) (steps : Int) (i : Int), s_l08Chain.l1 (fun y0 => (kke0 y0).bind g) n h from_ steps i = (s_l08Chain.l1 kke0 n h from_ steps i).bind g := by
  intro n
  induction n with
  | zero => intros; rfl
  | succ n ih => intros; simp only [s_l08Chain.l1, grd_bind, cnd_bind, bnd_bind, non_bind, ih]
def s_l08Chain.F {R : Type} (kk : ByteArray → Option R) (h : ByteArray) (from_ : Int) (steps : Int) : Option R :=
  s_l08Chain.l1 (fun h1 => kk h1) fuel h from_ steps (0 : Int)
theorem s_l08Chain.F_nat {R S : Type} (g : R → Option S) (kk : ByteArray → Option R) (h : ByteArray) (from_ : Int) (steps : Int) : s_l08Chain.F (fun y0 => (kk y0).bind g) h from_ steps = (s_l08Chain.F kk h from_ steps).bind g := by
  simp only [s_l08Chain.F, grd_bind, cnd_bind, bnd_bind, non_bind, ← s_l08Chain.l1_nat]
def s_l08Chain (h : ByteArray) (from_ : Int) (steps : Int) : Option ByteArray := s_l08Chain.F (fun y0 => some y0) h from_ steps
theorem s_l08Chain_nat {S : Type} (g : ByteArray → Option S) (h : ByteArray) (from_ : Int) (steps : Int) : s_l08Chain.F (fun y0 => g y0) h from_ steps = (s_l08Chain h from_ steps).bind g := s_l08Chain.F_nat g (fun y0 => some y0) h from_ steps
def s_l08Chain.out : ByteArray → CRes := fun a => ⟨encL SV.enc [.one (.str)] (a, ()), [encL SC.enc [] (), encL SC.enc [] (), encL SC.enc [] ()]⟩
def s_l08Chain.ps : List PS := [.val [none], .val [none], .val [none]]
def s_l08Chain.sA : List SA := [.v (.one (.str)), .v (.one (.int .i64)), .v (.one (.int .i64))]
def s_l08Chain.fi : FI := FIs s_l08Chain.sA (ByteArray) (fun t => s_l08Chain t.1 t.2.1 t.2.2.1) s_l08Chain.out s_l08Chain.ps
def s_l08Chain.E : Env := ⟨tt, lkF [(162, s_l01Hash.fi)], 22, 0, [], []⟩
def s_l08Chain.sh1 : SK := ⟨[.v (.one (.str)), .v (.one (.int .i64)), .v (.one (.int .i64)), .v (.one (.int .i64))], []⟩
def s_l08Chain.sh1e0 : SK := ⟨[.v (.one (.str))], []⟩
def s_l08Chain.ko1 : Ex → List CastAt × List Nat
  | .nrm => ([], [])
  | .ret => ([], [])
  | .ext i => cond (Nat.beq i 0) ([], [0]) ([], [])
def s_l08Chain.G1 (n : Nat) (R : Type) (t : s_l08Chain.sh1.T) (K : Ex → Kp → Option R) : Option R := s_l08Chain.l1 (fun y0 => K (.ext 0) (SK.enc s_l08Chain.sh1e0 ((y0, ()), ()))) n t.1.1 t.1.2.1 t.1.2.2.1 t.1.2.2.2.1
def s_l08Chain.S1 : Sum := ⟨([], [0, 1, 2, 7]), sumF s_l08Chain.sh1 (s_l08Chain.G1 fuel), s_l08Chain.ko1⟩
theorem s_l08Chain.ok1 (hE : EOk Tryz.prog (s_l08Chain.E)) : SumOk Tryz.prog s_l08Chain.E (cB (cR (cL (cR (bodyOf Tryz.f159))))) (s_l08Chain.S1) := by
  have hh : HintOk Tryz.prog s_l08Chain.E (cB (cB (cR (cL (cR (bodyOf Tryz.f159)))))) (.a) := HintOk.n1 (Q := True) (by kernel_rfl) trivial
  have h := loopS (kin := ([], [0, 1, 2, 7])) (kout := s_l08Chain.ko1) (sh := s_l08Chain.sh1) (F := s_l08Chain.G1) (ops_ok (hE.gv _)) (by kernel_rfl) hh (fun _ _ _ => rfl) (fun n R t K => by kernel_rfl) fuel
  exact HintOk.n1 (c := (cB (cR (cL (cR (bodyOf Tryz.f159)))))) (h := .s (s_l08Chain.S1)) (P := Tryz.prog) (E := s_l08Chain.E) (by kernel_rfl) h
theorem s_l08Chain.hok (hE : EOk Tryz.prog (s_l08Chain.E)) : HintOk Tryz.prog s_l08Chain.E (bodyOf Tryz.f159) (.n (.a) (.n (.n (.a) (.b (.s (s_l08Chain.S1)))) (.a))) := HintOk.n1 (Q := (True) ∧ (((True) ∧ (SumOk Tryz.prog s_l08Chain.E (cB (cR (cL (cR (bodyOf Tryz.f159))))) (s_l08Chain.S1))) ∧ (True))) (by kernel_rfl) ⟨trivial, ⟨⟨trivial, (s_l08Chain.ok1 hE)⟩, trivial⟩⟩
theorem s_l08Chain.hE : EOk Tryz.prog (s_l08Chain.E) := EOk.of ttOk (⟨s_l01Hash.fok, trivial⟩)
theorem s_l08Chain.fok : FOk Tryz.prog 159 s_l08Chain.fi :=
  fokS (E := s_l08Chain.E) (wy := ⟨[[none]], [[], [], []], []⟩) (h := (fun gs => .n (.a) (.n (.n (.a) (.b (.s (s_l08Chain.S1)))) (.a)))) (G := fun t g => s_l08Chain.F (fun y0 => g y0) t.1 t.2.1 t.2.2.1) (by kernel_rfl) s_l08Chain.hE Tryz.func159 (by kernel_rfl) rfl (Nat.le_refl _) (fun t => HintOk.n1 (by kernel_rfl) (s_l08Chain.hok s_l08Chain.hE)) (fun t g => s_l08Chain_nat g t.1 t.2.1 t.2.2.1) (fun t => by kernel_rfl)
/-! loop.example_g00220_spec.l06Half -/
def s_l06Half.l1 {R : Type} (kke0 : Int → Option R) : Nat → Int → Int → Option R
  | 0, _, _ => none
  | n + 1, n_, k_ =>
    cond (decide ((IntKind.wrap .i64 ((2 : Int) * k_)) < n_)) (s_l06Half.l1 kke0 n n_ (IntKind.wrap .i64 (k_ * (2 : Int)))) (kke0 k_)
theorem s_l06Half.l1_nat {R S : Type} (g : R → Option S) (kke0 : Int → Option R) : ∀ (n : Nat) (n_ : Int) (k_ : Int), s_l06Half.l1 (fun y0 => (kke0 y0).bind g) n n_ k_ = (s_l06Half.l1 kke0 n n_ k_).bind g := by
  intro n
  induction n with
  | zero => intros; rfl
  | succ n ih => intros; simp only [s_l06Half.l1, grd_bind, cnd_bind, bnd_bind, non_bind, ih]
def s_l06Half.F {R : Type} (kk : Int → Option R) (n_ : Int) : Option R :=
  s_l06Half.l1 (fun k_ => kk k_) fuel n_ (1 : Int)
theorem s_l06Half.F_nat {R S : Type} (g : R → Option S) (kk : Int → Option R) (n_ : Int) : s_l06Half.F (fun y0 => (kk y0).bind g) n_ = (s_l06Half.F kk n_).bind g := by
  simp only [s_l06Half.F, grd_bind, cnd_bind, bnd_bind, non_bind, ← s_l06Half.l1_nat]
def s_l06Half (n_ : Int) : Option Int := s_l06Half.F (fun y0 => some y0) n_
theorem s_l06Half_nat {S : Type} (g : Int → Option S) (n_ : Int) : s_l06Half.F (fun y0 => g y0) n_ = (s_l06Half n_).bind g := s_l06Half.F_nat g (fun y0 => some y0) n_
def s_l06Half.out : Int → CRes := fun a => ⟨encL SV.enc [.one (.int .i64)] (a, ()), [encL SC.enc [] ()]⟩
def s_l06Half.ps : List PS := [.val [none]]
def s_l06Half.sA : List SA := [.v (.one (.int .i64))]
def s_l06Half.fi : FI := FIs s_l06Half.sA (Int) (fun t => s_l06Half t.1) s_l06Half.out s_l06Half.ps
def s_l06Half.E : Env := ⟨tt, lkF [], 11, 0, [], []⟩
def s_l06Half.sh1 : SK := ⟨[.v (.one (.int .i64)), .v (.one (.int .i64))], []⟩
def s_l06Half.sh1e0 : SK := ⟨[.v (.one (.int .i64))], []⟩
def s_l06Half.ko1 : Ex → List CastAt × List Nat
  | .nrm => ([], [])
  | .ret => ([], [])
  | .ext i => cond (Nat.beq i 0) ([], [3]) ([], [])
def s_l06Half.G1 (n : Nat) (R : Type) (t : s_l06Half.sh1.T) (K : Ex → Kp → Option R) : Option R := s_l06Half.l1 (fun y0 => K (.ext 0) (SK.enc s_l06Half.sh1e0 ((y0, ()), ()))) n t.1.1 t.1.2.1
def s_l06Half.S1 : Sum := ⟨([], [0, 3]), sumF s_l06Half.sh1 (s_l06Half.G1 fuel), s_l06Half.ko1⟩
theorem s_l06Half.ok1 (hE : EOk Tryz.prog (s_l06Half.E)) : SumOk Tryz.prog s_l06Half.E (cB (cL (cR (cR (bodyOf Tryz.f118))))) (s_l06Half.S1) := by
  have hh : HintOk Tryz.prog s_l06Half.E (cB (cB (cL (cR (cR (bodyOf Tryz.f118)))))) (.a) := HintOk.n1 (Q := True) (by kernel_rfl) trivial
  have h := loopS (kin := ([], [0, 3])) (kout := s_l06Half.ko1) (sh := s_l06Half.sh1) (F := s_l06Half.G1) (ops_ok (hE.gv _)) (by kernel_rfl) hh (fun _ _ _ => rfl) (fun n R t K => by kernel_rfl) fuel
  exact HintOk.n1 (c := (cB (cL (cR (cR (bodyOf Tryz.f118)))))) (h := .s (s_l06Half.S1)) (P := Tryz.prog) (E := s_l06Half.E) (by kernel_rfl) h
theorem s_l06Half.hok (hE : EOk Tryz.prog (s_l06Half.E)) : HintOk Tryz.prog s_l06Half.E (bodyOf Tryz.f118) (.n (.a) (.n (.a) (.n (.b (.s (s_l06Half.S1))) (.a)))) := HintOk.n1 (Q := (True) ∧ ((True) ∧ ((SumOk Tryz.prog s_l06Half.E (cB (cL (cR (cR (bodyOf Tryz.f118))))) (s_l06Half.S1)) ∧ (True)))) (by kernel_rfl) ⟨trivial, ⟨trivial, ⟨(s_l06Half.ok1 hE), trivial⟩⟩⟩
theorem s_l06Half.hE : EOk Tryz.prog (s_l06Half.E) := EOk.of ttOk (trivial)
theorem s_l06Half.fok : FOk Tryz.prog 118 s_l06Half.fi :=
  fokS (E := s_l06Half.E) (wy := ⟨[[none]], [[]], []⟩) (h := (fun gs => .n (.a) (.n (.a) (.n (.b (.s (s_l06Half.S1))) (.a))))) (G := fun t g => s_l06Half.F (fun y0 => g y0) t.1) (by kernel_rfl) s_l06Half.hE Tryz.func118 (by kernel_rfl) rfl (Nat.le_refl _) (fun t => HintOk.n1 (by kernel_rfl) (s_l06Half.hok s_l06Half.hE)) (fun t g => s_l06Half_nat g t.1) (fun t => by kernel_rfl)
/-! loop.example_g00220_spec.l06Node -/
def s_l06Node.F {R : Type} (kk : ByteArray → Option R) (a : ByteArray) (b : ByteArray) : Option R :=
  grd (gRm (((List.length [(1 : Int)]) + (List.length (bytesL a))) * 1)) <|
  grd (gRm (((List.length ([(1 : Int)] ++ (bytesL a))) + (List.length (bytesL b))) * 1)) <|
  (s_l01Hash (([(1 : Int)] ++ (bytesL a)) ++ (bytesL b))).bind fun r =>
  kk r
theorem s_l06Node.F_nat {R S : Type} (g : R → Option S) (kk : ByteArray → Option R) (a : ByteArray) (b : ByteArray) : s_l06Node.F (fun y0 => (kk y0).bind g) a b = (s_l06Node.F kk a b).bind g := by
  simp only [s_l06Node.F, grd_bind, cnd_bind, bnd_bind, non_bind]
def s_l06Node (a : ByteArray) (b : ByteArray) : Option ByteArray := s_l06Node.F (fun y0 => some y0) a b
theorem s_l06Node_nat {S : Type} (g : ByteArray → Option S) (a : ByteArray) (b : ByteArray) : s_l06Node.F (fun y0 => g y0) a b = (s_l06Node a b).bind g := s_l06Node.F_nat g (fun y0 => some y0) a b
def s_l06Node.out : ByteArray → CRes := fun a => ⟨encL SV.enc [.one (.str)] (a, ()), [encL SC.enc [] (), encL SC.enc [] ()]⟩
def s_l06Node.ps : List PS := [.val [none], .val [none]]
def s_l06Node.sA : List SA := [.v (.one (.str)), .v (.one (.str))]
def s_l06Node.fi : FI := FIs s_l06Node.sA (ByteArray) (fun t => s_l06Node t.1 t.2.1) s_l06Node.out s_l06Node.ps
def s_l06Node.E : Env := ⟨tt, lkF [(162, s_l01Hash.fi)], 11, 0, [], []⟩
theorem s_l06Node.hok (hE : EOk Tryz.prog (s_l06Node.E)) : HintOk Tryz.prog s_l06Node.E (bodyOf Tryz.f119) (.a) := HintOk.n1 (Q := True) (by kernel_rfl) trivial
theorem s_l06Node.hE : EOk Tryz.prog (s_l06Node.E) := EOk.of ttOk (⟨s_l01Hash.fok, trivial⟩)
theorem s_l06Node.fok : FOk Tryz.prog 119 s_l06Node.fi :=
  fokS (E := s_l06Node.E) (wy := ⟨[[none]], [[], []], []⟩) (h := (fun gs => .a)) (G := fun t g => s_l06Node.F (fun y0 => g y0) t.1 t.2.1) (by kernel_rfl) s_l06Node.hE Tryz.func119 (by kernel_rfl) rfl (Nat.le_refl _) (fun t => HintOk.n1 (by kernel_rfl) (s_l06Node.hok s_l06Node.hE)) (fun t g => s_l06Node_nat g t.1 t.2.1) (fun t => by kernel_rfl)
/-! loop.example_g00220_spec.l06Up -/
def s_l06Up.F {R : Type} (rc : ByteArray → Int → Int → List ByteArray → Option (ByteArray × Bool)) (kk : ByteArray → Bool → Option R) (leaf : ByteArray) (at_ : Int) (size : Int) (proof : List ByteArray) : Option R :=
  cond (size == (1 : Int)) (kk leaf ((List.length proof : Int) == (0 : Int))) (
    cond ((List.length proof : Int) == (0 : Int)) (kk ByteArray.empty false) (
      (s_l06Half size).bind fun r =>
      grd (gIx (IntKind.wrap .i64 ((List.length proof : Int) - (1 : Int))) (List.length proof)) <|
      grd (gSl (0 : Int) (IntKind.wrap .i64 ((List.length proof : Int) - (1 : Int))) (List.length proof)) <|
      cond (decide (at_ < r)) (
        (rc leaf at_ r (sub proof (0 : Int) (IntKind.wrap .i64 ((List.length proof : Int) - (1 : Int))))).bind fun r1 =>
        (s_l06Node r1.1 (rdE (.str : Kd) proof (Int.toNat (IntKind.wrap .i64 ((List.length proof : Int) - (1 : Int)))))).bind fun r2 =>
        kk r2 r1.2) (
        (rc leaf (IntKind.wrap .i64 (at_ - r)) (IntKind.wrap .i64 (size - r)) (sub proof (0 : Int) (IntKind.wrap .i64 ((List.length proof : Int) - (1 : Int))))).bind fun r3 =>
        (s_l06Node (rdE (.str : Kd) proof (Int.toNat (IntKind.wrap .i64 ((List.length proof : Int) - (1 : Int))))) r3.1).bind fun r4 =>
        kk r4 r3.2)))
theorem s_l06Up.F_nat {R S : Type} (g : R → Option S) (rc : ByteArray → Int → Int → List ByteArray → Option (ByteArray × Bool)) (kk : ByteArray → Bool → Option R) (leaf : ByteArray) (at_ : Int) (size : Int) (proof : List ByteArray) : s_l06Up.F rc (fun y0 y1 => (kk y0 y1).bind g) leaf at_ size proof = (s_l06Up.F rc kk leaf at_ size proof).bind g := by
  simp only [s_l06Up.F, grd_bind, cnd_bind, bnd_bind, non_bind]
def s_l06Up : Nat → ByteArray → Int → Int → List ByteArray → Option (ByteArray × Bool)
  | 0, _, _, _, _ => none
  | fu + 1, leaf, at_, size, proof => s_l06Up.F (s_l06Up fu) (fun y0 y1 => some (y0, y1)) leaf at_ size proof
theorem s_l06Up_nat {S : Type} (fu : Nat) (g : (ByteArray × Bool) → Option S) (leaf : ByteArray) (at_ : Int) (size : Int) (proof : List ByteArray) : s_l06Up.F (s_l06Up fu) (fun y0 y1 => g (y0, y1)) leaf at_ size proof = (s_l06Up (fu + 1) leaf at_ size proof).bind g := s_l06Up.F_nat g (s_l06Up fu) (fun y0 y1 => some (y0, y1)) leaf at_ size proof
def s_l06Up.out : (ByteArray × Bool) → CRes := fun a => ⟨encL SV.enc [.one (.str), .one (.bool)] (a.1, a.2, ()), [encL SC.enc [] (), encL SC.enc [] (), encL SC.enc [] (), encL SC.enc [] ()]⟩
def s_l06Up.ps : List PS := [.val [none], .val [none], .val [none], .val [some (.str, false)]]
def s_l06Up.sA : List SA := [.v (.one (.str)), .v (.one (.int .i64)), .v (.one (.int .i64)), .v (.one (.slv [] .str))]
def s_l06Up.fi (fu : Nat) : FI := FIs s_l06Up.sA (ByteArray × Bool) (fun t => s_l06Up fu t.1 t.2.1 t.2.2.1 t.2.2.2.1) s_l06Up.out s_l06Up.ps
def s_l06Up.E (fu : Nat) : Env := ⟨tt, lkF [(118, s_l06Half.fi), (119, s_l06Node.fi), (160, s_l06Up.fi fu)], 70, 0, [], []⟩
theorem s_l06Up.hok (fu : Nat) (hE : EOk Tryz.prog (s_l06Up.E fu)) : HintOk Tryz.prog (s_l06Up.E fu) (bodyOf Tryz.f160) (.a) := HintOk.n1 (Q := True) (by kernel_rfl) trivial
theorem s_l06Up.fok0 : FOk Tryz.prog 160 (s_l06Up.fi 0) := FOk.zero ⟨_, _, Tryz.func160, by kernel_rfl, rfl⟩ (fun _ => rfl)
theorem s_l06Up.fok1 (fu : Nat) (ih : FOk Tryz.prog 160 (s_l06Up.fi fu)) : FOk Tryz.prog 160 (s_l06Up.fi (fu + 1)) := by
  have hE : EOk Tryz.prog (s_l06Up.E fu) := EOk.of ttOk (⟨s_l06Half.fok, ⟨s_l06Node.fok, ⟨ih, trivial⟩⟩⟩)
  exact fokS (E := s_l06Up.E fu) (wy := ⟨[[none], [none]], [[], [], [], []], []⟩) (h := (fun gs => .a)) (G := fun t g => s_l06Up.F (s_l06Up fu) (fun y0 y1 => g (y0, y1)) t.1 t.2.1 t.2.2.1 t.2.2.2.1) (by kernel_rfl) hE Tryz.func160 (by kernel_rfl) rfl (Nat.le_refl _) (fun t => HintOk.n1 (by kernel_rfl) (s_l06Up.hok fu hE)) (fun t g => s_l06Up_nat fu g t.1 t.2.1 t.2.2.1 t.2.2.2.1) (fun t => by kernel_rfl)
theorem s_l06Up.fok (fu : Nat) : FOk Tryz.prog 160 (s_l06Up.fi fu) := Nat.rec s_l06Up.fok0 s_l06Up.fok1 fu
/-! loop.example_g00220_spec.l08Ends -/
def s_l08Ends.l1 {R : Type} (kke0 : List Int → Option R) : Nat → List ByteArray → Int → List Int → Option R
  | 0, _, _, _ => none
  | n + 1, ends, i, b =>
    cond (decide (i < (List.length ends : Int))) (
      grd (gIx i (List.length ends)) <|
      grd (gRm (((List.length b) + (List.length (bytesL (rdE (.str : Kd) ends (Int.toNat i))))) * 1)) <|
      s_l08Ends.l1 kke0 n ends (IntKind.wrap .i64 (i + (1 : Int))) (b ++ (bytesL (rdE (.str : Kd) ends (Int.toNat i))))) (kke0 b)
theorem s_l08Ends.l1_nat {R S : Type} (g : R → Option S) (kke0 : List Int → Option R) : ∀ (n : Nat) (ends : List ByteArray) (i : Int) (b : List Int), s_l08Ends.l1 (fun y0 => (kke0 y0).bind g) n ends i b = (s_l08Ends.l1 kke0 n ends i b).bind g := by
  intro n
  induction n with
  | zero => intros; rfl
  | succ n ih => intros; simp only [s_l08Ends.l1, grd_bind, cnd_bind, bnd_bind, non_bind, ih]
def s_l08Ends.F {R : Type} (kk : ByteArray → Option R) (ends : List ByteArray) : Option R :=
  s_l08Ends.l1 (fun b =>
    (s_l01Hash b).bind fun r =>
    kk r) fuel ends (0 : Int) [(5 : Int)]
theorem s_l08Ends.F_nat {R S : Type} (g : R → Option S) (kk : ByteArray → Option R) (ends : List ByteArray) : s_l08Ends.F (fun y0 => (kk y0).bind g) ends = (s_l08Ends.F kk ends).bind g := by
  simp only [s_l08Ends.F, grd_bind, cnd_bind, bnd_bind, non_bind, ← s_l08Ends.l1_nat]
def s_l08Ends (ends : List ByteArray) : Option ByteArray := s_l08Ends.F (fun y0 => some y0) ends
theorem s_l08Ends_nat {S : Type} (g : ByteArray → Option S) (ends : List ByteArray) : s_l08Ends.F (fun y0 => g y0) ends = (s_l08Ends ends).bind g := s_l08Ends.F_nat g (fun y0 => some y0) ends
def s_l08Ends.out : ByteArray → CRes := fun a => ⟨encL SV.enc [.one (.str)] (a, ()), [encL SC.enc [] ()]⟩
def s_l08Ends.ps : List PS := [.val [some (.str, false)]]
def s_l08Ends.sA : List SA := [.v (.one (.slv [] .str))]
def s_l08Ends.fi : FI := FIs s_l08Ends.sA (ByteArray) (fun t => s_l08Ends t.1) s_l08Ends.out s_l08Ends.ps
def s_l08Ends.E : Env := ⟨tt, lkF [(162, s_l01Hash.fi)], 20, 0, [], []⟩
def s_l08Ends.sh1 : SK := ⟨[.v (.one (.slv [1] .str)), .v (.one (.slo 0)), .v (.one (.int .i64))], [.arr (.int .u8) [] true]⟩
def s_l08Ends.sh1e0 : SK := ⟨[.v (.one (.slo 0))], [.arr (.int .u8) [] true]⟩
def s_l08Ends.ko1 : Ex → List CastAt × List Nat
  | .nrm => ([], [])
  | .ret => ([], [])
  | .ext i => cond (Nat.beq i 0) ([], [3]) ([], [])
def s_l08Ends.G1 (n : Nat) (R : Type) (t : s_l08Ends.sh1.T) (K : Ex → Kp → Option R) : Option R := s_l08Ends.l1 (fun y0 => K (.ext 0) (SK.enc s_l08Ends.sh1e0 (((), ()), (y0, ())))) n t.1.1 t.1.2.2.1 t.2.1
def s_l08Ends.S1 : Sum := ⟨([], [0, 3, 4]), sumF s_l08Ends.sh1 (s_l08Ends.G1 fuel), s_l08Ends.ko1⟩
theorem s_l08Ends.ok1 (hE : EOk Tryz.prog (s_l08Ends.E)) : SumOk Tryz.prog s_l08Ends.E (cB (cR (cL (cR (cR (bodyOf Tryz.f161)))))) (s_l08Ends.S1) := by
  have hh : HintOk Tryz.prog s_l08Ends.E (cB (cB (cR (cL (cR (cR (bodyOf Tryz.f161))))))) (.a) := HintOk.n1 (Q := True) (by kernel_rfl) trivial
  have h := loopS (kin := ([], [0, 3, 4])) (kout := s_l08Ends.ko1) (sh := s_l08Ends.sh1) (F := s_l08Ends.G1) (ops_ok (hE.gv _)) (by kernel_rfl) hh (fun _ _ _ => rfl) (fun n R t K => by kernel_rfl) fuel
  exact HintOk.n1 (c := (cB (cR (cL (cR (cR (bodyOf Tryz.f161))))))) (h := .s (s_l08Ends.S1)) (P := Tryz.prog) (E := s_l08Ends.E) (by kernel_rfl) h
theorem s_l08Ends.hok (hE : EOk Tryz.prog (s_l08Ends.E)) : HintOk Tryz.prog s_l08Ends.E (bodyOf Tryz.f161) (.n (.a) (.n (.a) (.n (.n (.a) (.b (.s (s_l08Ends.S1)))) (.a)))) := HintOk.n1 (Q := (True) ∧ ((True) ∧ (((True) ∧ (SumOk Tryz.prog s_l08Ends.E (cB (cR (cL (cR (cR (bodyOf Tryz.f161)))))) (s_l08Ends.S1))) ∧ (True)))) (by kernel_rfl) ⟨trivial, ⟨trivial, ⟨⟨trivial, (s_l08Ends.ok1 hE)⟩, trivial⟩⟩⟩
theorem s_l08Ends.hE : EOk Tryz.prog (s_l08Ends.E) := EOk.of ttOk (⟨s_l01Hash.fok, trivial⟩)
theorem s_l08Ends.fok : FOk Tryz.prog 161 s_l08Ends.fi :=
  fokS (E := s_l08Ends.E) (wy := ⟨[[none]], [[]], []⟩) (h := (fun gs => .n (.a) (.n (.a) (.n (.n (.a) (.b (.s (s_l08Ends.S1)))) (.a))))) (G := fun t g => s_l08Ends.F (fun y0 => g y0) t.1) (by kernel_rfl) s_l08Ends.hE Tryz.func161 (by kernel_rfl) rfl (Nat.le_refl _) (fun t => HintOk.n1 (by kernel_rfl) (s_l08Ends.hok s_l08Ends.hE)) (fun t g => s_l08Ends_nat g t.1) (fun t => by kernel_rfl)
/-! loop.example_g00220_spec.l08Root -/
def s_l08Root.l1 {R : Type} (kke0 : Int → List ByteArray → List ByteArray → List ByteArray → Option R) : Nat → Int → Int → List ByteArray → List ByteArray → List ByteArray → List Int → Option R
  | 0, _, _, _, _, _, _ => none
  | n + 1, c, x, x1, x2, ends, digits =>
    cond (decide (c < (18 : Int))) (
      grd (gIx c (List.length x1)) <|
      grd (gIx c (List.length digits)) <|
      grd (gIx c (List.length digits)) <|
      (s_l08Chain (rdE (.str : Kd) x1 (Int.toNat c)) (rdE (.int .i64 : Kd) digits (Int.toNat c)) (IntKind.wrap .i64 ((15 : Int) - (rdE (.int .i64 : Kd) digits (Int.toNat c))))).bind fun r =>
      grd (gRm (((List.length ends) + (List.length [r])) * 16)) <|
      s_l08Root.l1 kke0 n (IntKind.wrap .i64 (c + (1 : Int))) x x1 x2 (ends ++ [r]) digits) (kke0 x x1 x2 ends)
theorem s_l08Root.l1_nat {R S : Type} (g : R → Option S) (kke0 : Int → List ByteArray → List ByteArray → List ByteArray → Option R) : ∀ (n : Nat) (c : Int) (x : Int) (x1 : List ByteArray) (x2 : List ByteArray) (ends : List ByteArray) (digits : List Int), s_l08Root.l1 (fun y0 y1 y2 y3 => (kke0 y0 y1 y2 y3).bind g) n c x x1 x2 ends digits = (s_l08Root.l1 kke0 n c x x1 x2 ends digits).bind g := by
  intro n
  induction n with
  | zero => intros; rfl
  | succ n ih => intros; simp only [s_l08Root.l1, grd_bind, cnd_bind, bnd_bind, non_bind, ih]
def s_l08Root.F {R : Type} (kk : ByteArray → Bool → Option R) (msg : ByteArray) (x_Index : Int) (x_Parts : List ByteArray) (x_Path : List ByteArray) : Option R :=
  (s_l08Digits msg).bind fun r =>
  s_l08Root.l1 (fun x x1 x2 ends =>
    (s_l08Ends ends).bind fun r1 =>
    (s_l06Up fuel r1 x (4 : Int) x2).bind fun r2 =>
    kk r2.1 r2.2) fuel (0 : Int) x_Index x_Parts x_Path ([] : List ByteArray) r
theorem s_l08Root.F_nat {R S : Type} (g : R → Option S) (kk : ByteArray → Bool → Option R) (msg : ByteArray) (x_Index : Int) (x_Parts : List ByteArray) (x_Path : List ByteArray) : s_l08Root.F (fun y0 y1 => (kk y0 y1).bind g) msg x_Index x_Parts x_Path = (s_l08Root.F kk msg x_Index x_Parts x_Path).bind g := by
  simp only [s_l08Root.F, grd_bind, cnd_bind, bnd_bind, non_bind, ← s_l08Root.l1_nat]
def s_l08Root (msg : ByteArray) (x_Index : Int) (x_Parts : List ByteArray) (x_Path : List ByteArray) : Option (ByteArray × Bool) := s_l08Root.F (fun y0 y1 => some (y0, y1)) msg x_Index x_Parts x_Path
theorem s_l08Root_nat {S : Type} (g : (ByteArray × Bool) → Option S) (msg : ByteArray) (x_Index : Int) (x_Parts : List ByteArray) (x_Path : List ByteArray) : s_l08Root.F (fun y0 y1 => g (y0, y1)) msg x_Index x_Parts x_Path = (s_l08Root msg x_Index x_Parts x_Path).bind g := s_l08Root.F_nat g (fun y0 y1 => some (y0, y1)) msg x_Index x_Parts x_Path
def s_l08Root.out : (ByteArray × Bool) → CRes := fun a => ⟨encL SV.enc [.one (.str), .one (.bool)] (a.1, a.2, ()), [encL SC.enc [] (), encL SC.enc [] ()]⟩
def s_l08Root.ps : List PS := [.val [none], .val [none, some (.str, false), some (.str, false)]]
def s_l08Root.sA : List SA := [.v (.one (.str)), .v (.agg [.int .i64, .slv [] .str, .slv [] .str])]
def s_l08Root.fi : FI := FIs s_l08Root.sA (ByteArray × Bool) (fun t => s_l08Root t.1 t.2.1.1 t.2.1.2.1 t.2.1.2.2.1) s_l08Root.out s_l08Root.ps
def s_l08Root.E : Env := ⟨tt, lkF [(158, s_l08Digits.fi), (159, s_l08Chain.fi), (160, s_l06Up.fi fuel), (161, s_l08Ends.fi)], 43, 0, [], []⟩
def s_l08Root.sh1 : SK := ⟨[.v (.one (.bptr 0 0)), .v (.one (.slo 1)), .v (.one (.slo 2)), .v (.one (.int .i64))], [.box [.int .i64, .slv [2] .str, .slv [2] .str], .arr .str [] true, .arr (.int .i64) [] true]⟩
def s_l08Root.sh1e0 : SK := ⟨[.v (.one (.bptr 0 0)), .v (.one (.slo 1))], [.box [.int .i64, .slv [2] .str, .slv [2] .str], .arr .str [] true]⟩
def s_l08Root.ko1 : Ex → List CastAt × List Nat
  | .nrm => ([], [])
  | .ret => ([], [])
  | .ext i => cond (Nat.beq i 0) ([], [3, 6]) ([], [])
def s_l08Root.G1 (n : Nat) (R : Type) (t : s_l08Root.sh1.T) (K : Ex → Kp → Option R) : Option R := s_l08Root.l1 (fun y0 y1 y2 y3 => K (.ext 0) (SK.enc s_l08Root.sh1e0 (((), (), ()), ((y0, y1, y2, ()), y3, ())))) n t.1.2.2.2.1 t.2.1.1 t.2.1.2.1 t.2.1.2.2.1 t.2.2.1 t.2.2.2.1
def s_l08Root.S1 : Sum := ⟨([], [3, 6, 7, 8]), sumF s_l08Root.sh1 (s_l08Root.G1 fuel), s_l08Root.ko1⟩
theorem s_l08Root.ok1 (hE : EOk Tryz.prog (s_l08Root.E)) : SumOk Tryz.prog s_l08Root.E (cB (cR (cL (cR (cR (cR (bodyOf Tryz.f115))))))) (s_l08Root.S1) := by
  have hh : HintOk Tryz.prog s_l08Root.E (cB (cB (cR (cL (cR (cR (cR (bodyOf Tryz.f115)))))))) (.a) := HintOk.n1 (Q := True) (by kernel_rfl) trivial
  have h := loopS (kin := ([], [3, 6, 7, 8])) (kout := s_l08Root.ko1) (sh := s_l08Root.sh1) (F := s_l08Root.G1) (ops_ok (hE.gv _)) (by kernel_rfl) hh (fun _ _ _ => rfl) (fun n R t K => by kernel_rfl) fuel
  exact HintOk.n1 (c := (cB (cR (cL (cR (cR (cR (bodyOf Tryz.f115)))))))) (h := .s (s_l08Root.S1)) (P := Tryz.prog) (E := s_l08Root.E) (by kernel_rfl) h
theorem s_l08Root.hok (hE : EOk Tryz.prog (s_l08Root.E)) : HintOk Tryz.prog s_l08Root.E (bodyOf Tryz.f115) (.n (.a) (.n (.a) (.n (.a) (.n (.n (.a) (.b (.s (s_l08Root.S1)))) (.a))))) := HintOk.n1 (Q := (True) ∧ ((True) ∧ ((True) ∧ (((True) ∧ (SumOk Tryz.prog s_l08Root.E (cB (cR (cL (cR (cR (cR (bodyOf Tryz.f115))))))) (s_l08Root.S1))) ∧ (True))))) (by kernel_rfl) ⟨trivial, ⟨trivial, ⟨trivial, ⟨⟨trivial, (s_l08Root.ok1 hE)⟩, trivial⟩⟩⟩⟩
theorem s_l08Root.hE : EOk Tryz.prog (s_l08Root.E) := EOk.of ttOk (⟨s_l08Digits.fok, ⟨s_l08Chain.fok, ⟨s_l06Up.fok fuel, ⟨s_l08Ends.fok, trivial⟩⟩⟩⟩)
theorem s_l08Root.fok : FOk Tryz.prog 115 s_l08Root.fi :=
  fokS (E := s_l08Root.E) (wy := ⟨[[none], [none]], [[], []], []⟩) (h := (fun gs => .n (.a) (.n (.a) (.n (.a) (.n (.n (.a) (.b (.s (s_l08Root.S1)))) (.a)))))) (G := fun t g => s_l08Root.F (fun y0 y1 => g (y0, y1)) t.1 t.2.1.1 t.2.1.2.1 t.2.1.2.2.1) (by kernel_rfl) s_l08Root.hE Tryz.func115 (by kernel_rfl) rfl (Nat.le_refl _) (fun t => HintOk.n1 (by kernel_rfl) (s_l08Root.hok s_l08Root.hE)) (fun t g => s_l08Root_nat g t.1 t.2.1.1 t.2.1.2.1 t.2.1.2.2.1) (fun t => by kernel_rfl)
/-! loop.example_g00220_spec.VerifySignature -/
def s_VerifySignature.F {R : Type} (kk : Int → Option R) (root : ByteArray) (msg : ByteArray) (x_Index : Int) (x_Parts : List ByteArray) (x_Path : List ByteArray) : Option R :=
  cond (decide ((ByteArray.size root : Int) > (65536 : Int))) (kk (2 : Int)) (
    cond (decide ((ByteArray.size msg : Int) > (65536 : Int))) (kk (2 : Int)) (
      cond (decide ((List.length x_Parts : Int) > (4096 : Int))) (kk (2 : Int)) (
        cond (decide ((List.length x_Path : Int) > (4096 : Int))) (kk (2 : Int)) (
          cond ((ByteArray.size root : Int) != (32 : Int)) (kk (1 : Int)) (
            (s_l06Hashes x_Parts).bind fun r =>
            cond (!r) (kk (1 : Int)) (
              (s_l06Hashes x_Path).bind fun r1 =>
              cond (!r1) (kk (1 : Int)) (
                (s_l08Index x_Index).bind fun r2 =>
                cond (!r2) (kk (4 : Int)) (
                  cond ((List.length x_Parts : Int) != (18 : Int)) (kk (4 : Int)) (
                    (s_l08Root msg x_Index x_Parts x_Path).bind fun r3 =>
                    cond (!r3.2) (kk (10 : Int)) (cond (!(sEq r3.1 root)) (kk (12 : Int)) (kk (0 : Int))))))))))))
theorem s_VerifySignature.F_nat {R S : Type} (g : R → Option S) (kk : Int → Option R) (root : ByteArray) (msg : ByteArray) (x_Index : Int) (x_Parts : List ByteArray) (x_Path : List ByteArray) : s_VerifySignature.F (fun y0 => (kk y0).bind g) root msg x_Index x_Parts x_Path = (s_VerifySignature.F kk root msg x_Index x_Parts x_Path).bind g := by
  simp only [s_VerifySignature.F, grd_bind, cnd_bind, bnd_bind, non_bind]
def s_VerifySignature (root : ByteArray) (msg : ByteArray) (x_Index : Int) (x_Parts : List ByteArray) (x_Path : List ByteArray) : Option Int := s_VerifySignature.F (fun y0 => some y0) root msg x_Index x_Parts x_Path
theorem s_VerifySignature_nat {S : Type} (g : Int → Option S) (root : ByteArray) (msg : ByteArray) (x_Index : Int) (x_Parts : List ByteArray) (x_Path : List ByteArray) : s_VerifySignature.F (fun y0 => g y0) root msg x_Index x_Parts x_Path = (s_VerifySignature root msg x_Index x_Parts x_Path).bind g := s_VerifySignature.F_nat g (fun y0 => some y0) root msg x_Index x_Parts x_Path
def s_VerifySignature.out : Int → CRes := fun a => ⟨encL SV.enc [.one (.int .i64)] (a, ()), [encL SC.enc [] (), encL SC.enc [] (), encL SC.enc [] ()]⟩
def s_VerifySignature.ps : List PS := [.val [none], .val [none], .val [none, some (.str, false), some (.str, false)]]
def s_VerifySignature.sA : List SA := [.v (.one (.str)), .v (.one (.str)), .v (.agg [.int .i64, .slv [] .str, .slv [] .str])]
def s_VerifySignature.fi : FI := FIs s_VerifySignature.sA (Int) (fun t => s_VerifySignature t.1 t.2.1 t.2.2.1.1 t.2.2.1.2.1 t.2.2.1.2.2.1) s_VerifySignature.out s_VerifySignature.ps
def s_VerifySignature.E : Env := ⟨tt, lkF [(70, s_l06Hashes.fi), (114, s_l08Index.fi), (115, s_l08Root.fi)], 63, 0, [], []⟩
theorem s_VerifySignature.hok (hE : EOk Tryz.prog (s_VerifySignature.E)) : HintOk Tryz.prog s_VerifySignature.E (bodyOf Tryz.f71) (.a) := HintOk.n1 (Q := True) (by kernel_rfl) trivial
theorem s_VerifySignature.hE : EOk Tryz.prog (s_VerifySignature.E) := EOk.of ttOk (⟨s_l06Hashes.fok, ⟨s_l08Index.fok, ⟨s_l08Root.fok, trivial⟩⟩⟩)
theorem s_VerifySignature.fok : FOk Tryz.prog 71 s_VerifySignature.fi :=
  fokS (E := s_VerifySignature.E) (wy := ⟨[[none]], [[], [], []], []⟩) (h := (fun gs => .a)) (G := fun t g => s_VerifySignature.F (fun y0 => g y0) t.1 t.2.1 t.2.2.1.1 t.2.2.1.2.1 t.2.2.1.2.2.1) (by kernel_rfl) s_VerifySignature.hE Tryz.func71 (by kernel_rfl) rfl (Nat.le_refl _) (fun t => HintOk.n1 (by kernel_rfl) (s_VerifySignature.hok s_VerifySignature.hE)) (fun t g => s_VerifySignature_nat g t.1 t.2.1 t.2.2.1.1 t.2.2.1.2.1 t.2.2.1.2.2.1) (fun t => by kernel_rfl)
/-! loop.example_g00220_spec.l00Digits -/
def s_l00Digits.F {R : Type} (rc : Int → Option ByteArray) (kk : ByteArray → Option R) (n_ : Int) : Option R :=
  cond (n_ == (-9223372036854775808 : Int)) (
    kk (⟨#[45, 57, 50, 50, 51, 51, 55, 50, 48, 51, 54, 56, 53, 52, 55, 55, 53, 56, 48, 56]⟩ : ByteArray)) (
    cond (decide (n_ < (0 : Int))) (
      (rc (IntKind.wrap .i64 (0 - n_))).bind fun r =>
      grd (gCat (⟨#[45]⟩ : ByteArray) r) <|
      kk ((⟨#[45]⟩ : ByteArray) ++ r)) (
      cond (decide (n_ < (10 : Int))) (kk (strL [IntKind.wrap .u8 (IntKind.wrap .i64 ((48 : Int) + n_))])) (
        grd (gNz (10 : Int)) <|
        (rc (IntKind.wrap .i64 (Int.tdiv n_ (10 : Int)))).bind fun r1 =>
        grd (gNz (10 : Int)) <|
        grd (gCat r1 (strL [IntKind.wrap .u8 (IntKind.wrap .i64 ((48 : Int) + (Int.tmod n_ (10 : Int))))])) <|
        kk (r1 ++ (strL [IntKind.wrap .u8 (IntKind.wrap .i64 ((48 : Int) + (Int.tmod n_ (10 : Int))))])))))
theorem s_l00Digits.F_nat {R S : Type} (g : R → Option S) (rc : Int → Option ByteArray) (kk : ByteArray → Option R) (n_ : Int) : s_l00Digits.F rc (fun y0 => (kk y0).bind g) n_ = (s_l00Digits.F rc kk n_).bind g := by
  simp only [s_l00Digits.F, grd_bind, cnd_bind, bnd_bind, non_bind]
def s_l00Digits : Nat → Int → Option ByteArray
  | 0, _ => none
  | fu + 1, n_ => s_l00Digits.F (s_l00Digits fu) (fun y0 => some y0) n_
theorem s_l00Digits_nat {S : Type} (fu : Nat) (g : ByteArray → Option S) (n_ : Int) : s_l00Digits.F (s_l00Digits fu) (fun y0 => g y0) n_ = (s_l00Digits (fu + 1) n_).bind g := s_l00Digits.F_nat g (s_l00Digits fu) (fun y0 => some y0) n_
def s_l00Digits.out : ByteArray → CRes := fun a => ⟨encL SV.enc [.one (.str)] (a, ()), [encL SC.enc [] ()]⟩
def s_l00Digits.ps : List PS := [.val [none]]
def s_l00Digits.sA : List SA := [.v (.one (.int .i64))]
def s_l00Digits.fi (fu : Nat) : FI := FIs s_l00Digits.sA (ByteArray) (fun t => s_l00Digits fu t.1) s_l00Digits.out s_l00Digits.ps
def s_l00Digits.E (fu : Nat) : Env := ⟨tt, lkF [(116, s_l00Digits.fi fu)], 28, 0, [], []⟩
theorem s_l00Digits.hok (fu : Nat) (hE : EOk Tryz.prog (s_l00Digits.E fu)) : HintOk Tryz.prog (s_l00Digits.E fu) (bodyOf Tryz.f116) (.a) := HintOk.n1 (Q := True) (by kernel_rfl) trivial
theorem s_l00Digits.fok0 : FOk Tryz.prog 116 (s_l00Digits.fi 0) := FOk.zero ⟨_, _, Tryz.func116, by kernel_rfl, rfl⟩ (fun _ => rfl)
theorem s_l00Digits.fok1 (fu : Nat) (ih : FOk Tryz.prog 116 (s_l00Digits.fi fu)) : FOk Tryz.prog 116 (s_l00Digits.fi (fu + 1)) := by
  have hE : EOk Tryz.prog (s_l00Digits.E fu) := EOk.of ttOk (⟨ih, trivial⟩)
  exact fokS (E := s_l00Digits.E fu) (wy := ⟨[[none]], [[]], []⟩) (h := (fun gs => .a)) (G := fun t g => s_l00Digits.F (s_l00Digits fu) (fun y0 => g y0) t.1) (by kernel_rfl) hE Tryz.func116 (by kernel_rfl) rfl (Nat.le_refl _) (fun t => HintOk.n1 (by kernel_rfl) (s_l00Digits.hok fu hE)) (fun t g => s_l00Digits_nat fu g t.1) (fun t => by kernel_rfl)
theorem s_l00Digits.fok (fu : Nat) : FOk Tryz.prog 116 (s_l00Digits.fi fu) := Nat.rec s_l00Digits.fok0 s_l00Digits.fok1 fu
/-! loop.example_g00220_spec.l01Hex -/
def s_l01Hex.l1 {R : Type} (kke0 : List Int → Option R) : Nat → ByteArray → Int → List Int → Option R
  | 0, _, _, _ => none
  | n + 1, t_, i, out =>
    cond (decide (i < (ByteArray.size t_ : Int))) (
      grd (gIx i (ByteArray.size t_)) <|
      grd (gNz (16 : Int)) <|
      grd (gIx (IntKind.wrap .u8 (Int.tdiv (byteAt t_ i) (16 : Int))) (ByteArray.size (⟨#[48, 49, 50, 51, 52, 53, 54, 55, 56, 57, 97, 98, 99, 100, 101, 102]⟩ : ByteArray))) <|
      grd (gIx i (ByteArray.size t_)) <|
      grd (gNz (16 : Int)) <|
      grd (gIx (Int.tmod (byteAt t_ i) (16 : Int)) (ByteArray.size (⟨#[48, 49, 50, 51, 52, 53, 54, 55, 56, 57, 97, 98, 99, 100, 101, 102]⟩ : ByteArray))) <|
      grd (gRm (((List.length out) + (List.length ([byteAt (⟨#[48, 49, 50, 51, 52, 53, 54, 55, 56, 57, 97, 98, 99, 100, 101, 102]⟩ : ByteArray) (IntKind.wrap .u8 (Int.tdiv (byteAt t_ i) (16 : Int))), byteAt (⟨#[48, 49, 50, 51, 52, 53, 54, 55, 56, 57, 97, 98, 99, 100, 101, 102]⟩ : ByteArray) (Int.tmod (byteAt t_ i) (16 : Int))]))) * 1)) <|
      s_l01Hex.l1 kke0 n t_ (IntKind.wrap .i64 (i + (1 : Int))) (out ++ ([byteAt (⟨#[48, 49, 50, 51, 52, 53, 54, 55, 56, 57, 97, 98, 99, 100, 101, 102]⟩ : ByteArray) (IntKind.wrap .u8 (Int.tdiv (byteAt t_ i) (16 : Int))), byteAt (⟨#[48, 49, 50, 51, 52, 53, 54, 55, 56, 57, 97, 98, 99, 100, 101, 102]⟩ : ByteArray) (Int.tmod (byteAt t_ i) (16 : Int))]))) (kke0 out)
theorem s_l01Hex.l1_nat {R S : Type} (g : R → Option S) (kke0 : List Int → Option R) : ∀ (n : Nat) (t_ : ByteArray) (i : Int) (out : List Int), s_l01Hex.l1 (fun y0 => (kke0 y0).bind g) n t_ i out = (s_l01Hex.l1 kke0 n t_ i out).bind g := by
  intro n
  induction n with
  | zero => intros; rfl
  | succ n ih => intros; simp only [s_l01Hex.l1, grd_bind, cnd_bind, bnd_bind, non_bind, ih]
def s_l01Hex.F {R : Type} (kk : ByteArray → Option R) (t_ : ByteArray) : Option R :=
  s_l01Hex.l1 (fun out => kk (strL out)) fuel t_ (0 : Int) ([] : List Int)
theorem s_l01Hex.F_nat {R S : Type} (g : R → Option S) (kk : ByteArray → Option R) (t_ : ByteArray) : s_l01Hex.F (fun y0 => (kk y0).bind g) t_ = (s_l01Hex.F kk t_).bind g := by
  simp only [s_l01Hex.F, grd_bind, cnd_bind, bnd_bind, non_bind, ← s_l01Hex.l1_nat]
def s_l01Hex (t_ : ByteArray) : Option ByteArray := s_l01Hex.F (fun y0 => some y0) t_
theorem s_l01Hex_nat {S : Type} (g : ByteArray → Option S) (t_ : ByteArray) : s_l01Hex.F (fun y0 => g y0) t_ = (s_l01Hex t_).bind g := s_l01Hex.F_nat g (fun y0 => some y0) t_
def s_l01Hex.out : ByteArray → CRes := fun a => ⟨encL SV.enc [.one (.str)] (a, ()), [encL SC.enc [] ()]⟩
def s_l01Hex.ps : List PS := [.val [none]]
def s_l01Hex.sA : List SA := [.v (.one (.str))]
def s_l01Hex.fi : FI := FIs s_l01Hex.sA (ByteArray) (fun t => s_l01Hex t.1) s_l01Hex.out s_l01Hex.ps
def s_l01Hex.E : Env := ⟨tt, lkF [], 27, 0, [], []⟩
def s_l01Hex.sh1 : SK := ⟨[.v (.one (.str)), .v (.one (.slo 0)), .v (.one (.int .i64))], [.arr (.int .u8) [] true]⟩
def s_l01Hex.sh1e0 : SK := ⟨[.v (.one (.slo 0))], [.arr (.int .u8) [] true]⟩
def s_l01Hex.ko1 : Ex → List CastAt × List Nat
  | .nrm => ([], [])
  | .ret => ([], [])
  | .ext i => cond (Nat.beq i 0) ([], [3]) ([], [])
def s_l01Hex.G1 (n : Nat) (R : Type) (t : s_l01Hex.sh1.T) (K : Ex → Kp → Option R) : Option R := s_l01Hex.l1 (fun y0 => K (.ext 0) (SK.enc s_l01Hex.sh1e0 (((), ()), (y0, ())))) n t.1.1 t.1.2.2.1 t.2.1
def s_l01Hex.S1 : Sum := ⟨([], [0, 3, 4]), sumF s_l01Hex.sh1 (s_l01Hex.G1 fuel), s_l01Hex.ko1⟩
theorem s_l01Hex.ok1 (hE : EOk Tryz.prog (s_l01Hex.E)) : SumOk Tryz.prog s_l01Hex.E (cB (cR (cL (cR (cR (bodyOf Tryz.f117)))))) (s_l01Hex.S1) := by
  have hh : HintOk Tryz.prog s_l01Hex.E (cB (cB (cR (cL (cR (cR (bodyOf Tryz.f117))))))) (.a) := HintOk.n1 (Q := True) (by kernel_rfl) trivial
  have h := loopS (kin := ([], [0, 3, 4])) (kout := s_l01Hex.ko1) (sh := s_l01Hex.sh1) (F := s_l01Hex.G1) (ops_ok (hE.gv _)) (by kernel_rfl) hh (fun _ _ _ => rfl) (fun n R t K => by kernel_rfl) fuel
  exact HintOk.n1 (c := (cB (cR (cL (cR (cR (bodyOf Tryz.f117))))))) (h := .s (s_l01Hex.S1)) (P := Tryz.prog) (E := s_l01Hex.E) (by kernel_rfl) h
theorem s_l01Hex.hok (hE : EOk Tryz.prog (s_l01Hex.E)) : HintOk Tryz.prog s_l01Hex.E (bodyOf Tryz.f117) (.n (.a) (.n (.a) (.n (.n (.a) (.b (.s (s_l01Hex.S1)))) (.a)))) := HintOk.n1 (Q := (True) ∧ ((True) ∧ (((True) ∧ (SumOk Tryz.prog s_l01Hex.E (cB (cR (cL (cR (cR (bodyOf Tryz.f117)))))) (s_l01Hex.S1))) ∧ (True)))) (by kernel_rfl) ⟨trivial, ⟨trivial, ⟨⟨trivial, (s_l01Hex.ok1 hE)⟩, trivial⟩⟩⟩
theorem s_l01Hex.hE : EOk Tryz.prog (s_l01Hex.E) := EOk.of ttOk (trivial)
theorem s_l01Hex.fok : FOk Tryz.prog 117 s_l01Hex.fi :=
  fokS (E := s_l01Hex.E) (wy := ⟨[[none]], [[]], []⟩) (h := (fun gs => .n (.a) (.n (.a) (.n (.n (.a) (.b (.s (s_l01Hex.S1)))) (.a))))) (G := fun t g => s_l01Hex.F (fun y0 => g y0) t.1) (by kernel_rfl) s_l01Hex.hE Tryz.func117 (by kernel_rfl) rfl (Nat.le_refl _) (fun t => HintOk.n1 (by kernel_rfl) (s_l01Hex.hok s_l01Hex.hE)) (fun t g => s_l01Hex_nat g t.1) (fun t => by kernel_rfl)
/-! loop.example_g00220_spec.l15Text -/
def s_l15Text.F {R : Type} (kk : ByteArray → Option R) (s_Size : Int) (s_Log : ByteArray) (s_Map : ByteArray) : Option R :=
  (s_l00Digits fuel s_Size).bind fun r =>
  grd (gCat (⟨#[115, 105, 122, 101, 32]⟩ : ByteArray) r) <|
  grd (gCat ((⟨#[115, 105, 122, 101, 32]⟩ : ByteArray) ++ r) (⟨#[32, 108, 111, 103, 32]⟩ : ByteArray)) <|
  (s_l01Hex s_Log).bind fun r1 =>
  grd (gCat (((⟨#[115, 105, 122, 101, 32]⟩ : ByteArray) ++ r) ++ (⟨#[32, 108, 111, 103, 32]⟩ : ByteArray)) r1) <|
  grd (gCat ((((⟨#[115, 105, 122, 101, 32]⟩ : ByteArray) ++ r) ++ (⟨#[32, 108, 111, 103, 32]⟩ : ByteArray)) ++ r1) (⟨#[32, 109, 97, 112, 32]⟩ : ByteArray)) <|
  (s_l01Hex s_Map).bind fun r2 =>
  grd (gCat (((((⟨#[115, 105, 122, 101, 32]⟩ : ByteArray) ++ r) ++ (⟨#[32, 108, 111, 103, 32]⟩ : ByteArray)) ++ r1) ++ (⟨#[32, 109, 97, 112, 32]⟩ : ByteArray)) r2) <|
  kk ((((((⟨#[115, 105, 122, 101, 32]⟩ : ByteArray) ++ r) ++ (⟨#[32, 108, 111, 103, 32]⟩ : ByteArray)) ++ r1) ++ (⟨#[32, 109, 97, 112, 32]⟩ : ByteArray)) ++ r2)
theorem s_l15Text.F_nat {R S : Type} (g : R → Option S) (kk : ByteArray → Option R) (s_Size : Int) (s_Log : ByteArray) (s_Map : ByteArray) : s_l15Text.F (fun y0 => (kk y0).bind g) s_Size s_Log s_Map = (s_l15Text.F kk s_Size s_Log s_Map).bind g := by
  simp only [s_l15Text.F, grd_bind, cnd_bind, bnd_bind, non_bind]
def s_l15Text (s_Size : Int) (s_Log : ByteArray) (s_Map : ByteArray) : Option ByteArray := s_l15Text.F (fun y0 => some y0) s_Size s_Log s_Map
theorem s_l15Text_nat {S : Type} (g : ByteArray → Option S) (s_Size : Int) (s_Log : ByteArray) (s_Map : ByteArray) : s_l15Text.F (fun y0 => g y0) s_Size s_Log s_Map = (s_l15Text s_Size s_Log s_Map).bind g := s_l15Text.F_nat g (fun y0 => some y0) s_Size s_Log s_Map
def s_l15Text.out : ByteArray → CRes := fun a => ⟨encL SV.enc [.one (.str)] (a, ()), [encL SC.enc [] ()]⟩
def s_l15Text.ps : List PS := [.val [none, none, none]]
def s_l15Text.sA : List SA := [.v (.agg [.int .i64, .str, .str])]
def s_l15Text.fi : FI := FIs s_l15Text.sA (ByteArray) (fun t => s_l15Text t.1.1 t.1.2.1 t.1.2.2.1) s_l15Text.out s_l15Text.ps
def s_l15Text.E : Env := ⟨tt, lkF [(116, s_l00Digits.fi fuel), (117, s_l01Hex.fi)], 17, 0, [], []⟩
theorem s_l15Text.hok (hE : EOk Tryz.prog (s_l15Text.E)) : HintOk Tryz.prog s_l15Text.E (bodyOf Tryz.f72) (.a) := HintOk.n1 (Q := True) (by kernel_rfl) trivial
theorem s_l15Text.hE : EOk Tryz.prog (s_l15Text.E) := EOk.of ttOk (⟨s_l00Digits.fok fuel, ⟨s_l01Hex.fok, trivial⟩⟩)
theorem s_l15Text.fok : FOk Tryz.prog 72 s_l15Text.fi :=
  fokS (E := s_l15Text.E) (wy := ⟨[[none]], [[]], []⟩) (h := (fun gs => .a)) (G := fun t g => s_l15Text.F (fun y0 => g y0) t.1.1 t.1.2.1 t.1.2.2.1) (by kernel_rfl) s_l15Text.hE Tryz.func72 (by kernel_rfl) rfl (Nat.le_refl _) (fun t => HintOk.n1 (by kernel_rfl) (s_l15Text.hok s_l15Text.hE)) (fun t g => s_l15Text_nat g t.1.1 t.1.2.1 t.1.2.2.1) (fun t => by kernel_rfl)
/-! loop.example_g00220_spec.l06Both -/
def s_l06Both.F {R : Type} (rc : Int → Int → ByteArray → List ByteArray → Bool → Option (ByteArray × ByteArray × Bool)) (kk : ByteArray → ByteArray → Bool → Option R) (old : Int) (size : Int) (root : ByteArray) (proof : List ByteArray) (whole : Bool) : Option R :=
  cond (old == size) (
    cond (whole) (kk root root ((List.length proof : Int) == (0 : Int))) (
      cond ((List.length proof : Int) != (1 : Int)) (kk ByteArray.empty ByteArray.empty false) (
        grd (gIx (0 : Int) (List.length proof)) <|
        grd (gIx (0 : Int) (List.length proof)) <|
        kk (rdE (.str : Kd) proof (Int.toNat (0 : Int))) (rdE (.str : Kd) proof (Int.toNat (0 : Int))) true))) (
    cond ((List.length proof : Int) == (0 : Int)) (kk ByteArray.empty ByteArray.empty false) (
      (s_l06Half size).bind fun r =>
      grd (gIx (IntKind.wrap .i64 ((List.length proof : Int) - (1 : Int))) (List.length proof)) <|
      grd (gSl (0 : Int) (IntKind.wrap .i64 ((List.length proof : Int) - (1 : Int))) (List.length proof)) <|
      cond (decide (old ≤ r)) (
        (rc old r root (sub proof (0 : Int) (IntKind.wrap .i64 ((List.length proof : Int) - (1 : Int)))) whole).bind fun r1 =>
        (s_l06Node r1.2.1 (rdE (.str : Kd) proof (Int.toNat (IntKind.wrap .i64 ((List.length proof : Int) - (1 : Int)))))).bind fun r2 =>
        kk r1.1 r2 r1.2.2) (
        (rc (IntKind.wrap .i64 (old - r)) (IntKind.wrap .i64 (size - r)) root (sub proof (0 : Int) (IntKind.wrap .i64 ((List.length proof : Int) - (1 : Int)))) false).bind fun r3 =>
        (s_l06Node (rdE (.str : Kd) proof (Int.toNat (IntKind.wrap .i64 ((List.length proof : Int) - (1 : Int))))) r3.1).bind fun r4 =>
        (s_l06Node (rdE (.str : Kd) proof (Int.toNat (IntKind.wrap .i64 ((List.length proof : Int) - (1 : Int))))) r3.2.1).bind fun r5 =>
        kk r4 r5 r3.2.2)))
theorem s_l06Both.F_nat {R S : Type} (g : R → Option S) (rc : Int → Int → ByteArray → List ByteArray → Bool → Option (ByteArray × ByteArray × Bool)) (kk : ByteArray → ByteArray → Bool → Option R) (old : Int) (size : Int) (root : ByteArray) (proof : List ByteArray) (whole : Bool) : s_l06Both.F rc (fun y0 y1 y2 => (kk y0 y1 y2).bind g) old size root proof whole = (s_l06Both.F rc kk old size root proof whole).bind g := by
  simp only [s_l06Both.F, grd_bind, cnd_bind, bnd_bind, non_bind]
def s_l06Both : Nat → Int → Int → ByteArray → List ByteArray → Bool → Option (ByteArray × ByteArray × Bool)
  | 0, _, _, _, _, _ => none
  | fu + 1, old, size, root, proof, whole => s_l06Both.F (s_l06Both fu) (fun y0 y1 y2 => some (y0, y1, y2)) old size root proof whole
theorem s_l06Both_nat {S : Type} (fu : Nat) (g : (ByteArray × ByteArray × Bool) → Option S) (old : Int) (size : Int) (root : ByteArray) (proof : List ByteArray) (whole : Bool) : s_l06Both.F (s_l06Both fu) (fun y0 y1 y2 => g (y0, y1, y2)) old size root proof whole = (s_l06Both (fu + 1) old size root proof whole).bind g := s_l06Both.F_nat g (s_l06Both fu) (fun y0 y1 y2 => some (y0, y1, y2)) old size root proof whole
def s_l06Both.out : (ByteArray × ByteArray × Bool) → CRes := fun a => ⟨encL SV.enc [.one (.str), .one (.str), .one (.bool)] (a.1, a.2.1, a.2.2, ()), [encL SC.enc [] (), encL SC.enc [] (), encL SC.enc [] (), encL SC.enc [] (), encL SC.enc [] ()]⟩
def s_l06Both.ps : List PS := [.val [none], .val [none], .val [none], .val [some (.str, false)], .val [none]]
def s_l06Both.sA : List SA := [.v (.one (.int .i64)), .v (.one (.int .i64)), .v (.one (.str)), .v (.one (.slv [] .str)), .v (.one (.bool))]
def s_l06Both.fi (fu : Nat) : FI := FIs s_l06Both.sA (ByteArray × ByteArray × Bool) (fun t => s_l06Both fu t.1 t.2.1 t.2.2.1 t.2.2.2.1 t.2.2.2.2.1) s_l06Both.out s_l06Both.ps
def s_l06Both.E (fu : Nat) : Env := ⟨tt, lkF [(73, s_l06Both.fi fu), (118, s_l06Half.fi), (119, s_l06Node.fi)], 94, 0, [], []⟩
theorem s_l06Both.hok (fu : Nat) (hE : EOk Tryz.prog (s_l06Both.E fu)) : HintOk Tryz.prog (s_l06Both.E fu) (bodyOf Tryz.f73) (.a) := HintOk.n1 (Q := True) (by kernel_rfl) trivial
theorem s_l06Both.fok0 : FOk Tryz.prog 73 (s_l06Both.fi 0) := FOk.zero ⟨_, _, Tryz.func73, by kernel_rfl, rfl⟩ (fun _ => rfl)
theorem s_l06Both.fok1 (fu : Nat) (ih : FOk Tryz.prog 73 (s_l06Both.fi fu)) : FOk Tryz.prog 73 (s_l06Both.fi (fu + 1)) := by
  have hE : EOk Tryz.prog (s_l06Both.E fu) := EOk.of ttOk (⟨ih, ⟨s_l06Half.fok, ⟨s_l06Node.fok, trivial⟩⟩⟩)
  exact fokS (E := s_l06Both.E fu) (wy := ⟨[[none], [none], [none]], [[], [], [], [], []], []⟩) (h := (fun gs => .a)) (G := fun t g => s_l06Both.F (s_l06Both fu) (fun y0 y1 y2 => g (y0, y1, y2)) t.1 t.2.1 t.2.2.1 t.2.2.2.1 t.2.2.2.2.1) (by kernel_rfl) hE Tryz.func73 (by kernel_rfl) rfl (Nat.le_refl _) (fun t => HintOk.n1 (by kernel_rfl) (s_l06Both.hok fu hE)) (fun t g => s_l06Both_nat fu g t.1 t.2.1 t.2.2.1 t.2.2.2.1 t.2.2.2.2.1) (fun t => by kernel_rfl)
theorem s_l06Both.fok (fu : Nat) : FOk Tryz.prog 73 (s_l06Both.fi fu) := Nat.rec s_l06Both.fok0 s_l06Both.fok1 fu
/-! loop.example_g00220_spec.Advance -/
def s_Advance.j1 {R : Type} (kkn : List ByteArray → Bool → ByteArray → Bool → Int → ByteArray → ByteArray → Int → ByteArray → ByteArray → ByteArray → Bool → Int → ByteArray → ByteArray → Option R) (proof : List ByteArray) (t_ : ByteArray) (t_1 : Bool) (t_2 : Int) (t_3 : ByteArray) (t_4 : ByteArray) (s : Int) (s1 : ByteArray) (s2 : ByteArray) (s3 : ByteArray) (b : Bool) (i : Int) (s4 : ByteArray) (s5 : ByteArray) : Option R :=
  cond (t_1) (kkn proof (decide (s < t_2)) t_ t_1 t_2 t_3 t_4 s s1 s2 s3 b i s4 s5) (kkn proof false t_ t_1 t_2 t_3 t_4 s s1 s2 s3 b i s4 s5)
theorem s_Advance.j1_nat {R S : Type} (g : R → Option S) (kkn : List ByteArray → Bool → ByteArray → Bool → Int → ByteArray → ByteArray → Int → ByteArray → ByteArray → ByteArray → Bool → Int → ByteArray → ByteArray → Option R) (proof : List ByteArray) (t_ : ByteArray) (t_1 : Bool) (t_2 : Int) (t_3 : ByteArray) (t_4 : ByteArray) (s : Int) (s1 : ByteArray) (s2 : ByteArray) (s3 : ByteArray) (b : Bool) (i : Int) (s4 : ByteArray) (s5 : ByteArray) : s_Advance.j1 (fun y0 y1 y2 y3 y4 y5 y6 y7 y8 y9 y10 y11 y12 y13 y14 => (kkn y0 y1 y2 y3 y4 y5 y6 y7 y8 y9 y10 y11 y12 y13 y14).bind g) proof t_ t_1 t_2 t_3 t_4 s s1 s2 s3 b i s4 s5 = (s_Advance.j1 kkn proof t_ t_1 t_2 t_3 t_4 s s1 s2 s3 b i s4 s5).bind g := by
  simp only [s_Advance.j1, grd_bind, cnd_bind, bnd_bind, non_bind]
def s_Advance.j2 {R : Type} (kkn : List ByteArray → ByteArray → Bool → Int → ByteArray → ByteArray → Int → ByteArray → ByteArray → ByteArray → Bool → Int → ByteArray → ByteArray → Option R) (kkr : Int → ByteArray → Bool → Int → ByteArray → ByteArray → Option R) (proof : List ByteArray) (t_ : ByteArray) (t_1 : Bool) (t_2 : Int) (t_3 : ByteArray) (t_4 : ByteArray) (s : Int) (s1 : ByteArray) (s2 : ByteArray) (s3 : ByteArray) (b : Bool) (i : Int) (s4 : ByteArray) (s5 : ByteArray) : Option R :=
  s_Advance.j1 (fun proof1 b1 t_5 t_6 t_7 t_8 t_9 s6 s7 s8 s9 b2 i1 s10 s11 =>
    cond (b1) (kkr (16 : Int) t_5 t_6 t_7 t_8 t_9) (
      cond (t_6) (
        cond (s6 == t_7) (
          cond (!(sEq s7 t_8)) (kkr (19 : Int) t_5 t_6 t_7 t_8 t_9) (
            cond (!(sEq s8 t_9)) (kkr (19 : Int) t_5 t_6 t_7 t_8 t_9) (kkn proof1 t_5 t_6 t_7 t_8 t_9 s6 s7 s8 s9 b2 i1 s10 s11))) (kkn proof1 t_5 t_6 t_7 t_8 t_9 s6 s7 s8 s9 b2 i1 s10 s11)) (kkn proof1 t_5 t_6 t_7 t_8 t_9 s6 s7 s8 s9 b2 i1 s10 s11))) proof t_ t_1 t_2 t_3 t_4 s s1 s2 s3 b i s4 s5
theorem s_Advance.j2_nat {R S : Type} (g : R → Option S) (kkn : List ByteArray → ByteArray → Bool → Int → ByteArray → ByteArray → Int → ByteArray → ByteArray → ByteArray → Bool → Int → ByteArray → ByteArray → Option R) (kkr : Int → ByteArray → Bool → Int → ByteArray → ByteArray → Option R) (proof : List ByteArray) (t_ : ByteArray) (t_1 : Bool) (t_2 : Int) (t_3 : ByteArray) (t_4 : ByteArray) (s : Int) (s1 : ByteArray) (s2 : ByteArray) (s3 : ByteArray) (b : Bool) (i : Int) (s4 : ByteArray) (s5 : ByteArray) : s_Advance.j2 (fun y0 y1 y2 y3 y4 y5 y6 y7 y8 y9 y10 y11 y12 y13 => (kkn y0 y1 y2 y3 y4 y5 y6 y7 y8 y9 y10 y11 y12 y13).bind g) (fun y0 y1 y2 y3 y4 y5 => (kkr y0 y1 y2 y3 y4 y5).bind g) proof t_ t_1 t_2 t_3 t_4 s s1 s2 s3 b i s4 s5 = (s_Advance.j2 kkn kkr proof t_ t_1 t_2 t_3 t_4 s s1 s2 s3 b i s4 s5).bind g := by
  simp only [s_Advance.j2, grd_bind, cnd_bind, bnd_bind, non_bind, ← s_Advance.j1_nat]
def s_Advance.j3 {R : Type} (kkn : List ByteArray → Bool → ByteArray → Bool → Int → ByteArray → ByteArray → Int → ByteArray → ByteArray → ByteArray → Bool → Int → ByteArray → ByteArray → Option R) (proof : List ByteArray) (t_ : ByteArray) (t_1 : Bool) (t_2 : Int) (t_3 : ByteArray) (t_4 : ByteArray) (s : Int) (s1 : ByteArray) (s2 : ByteArray) (s3 : ByteArray) (b : Bool) (i : Int) (s4 : ByteArray) (s5 : ByteArray) : Option R :=
  cond (t_1) (
    cond (decide (t_2 > (0 : Int))) (kkn proof (decide (s > t_2)) t_ t_1 t_2 t_3 t_4 s s1 s2 s3 b i s4 s5) (kkn proof false t_ t_1 t_2 t_3 t_4 s s1 s2 s3 b i s4 s5)) (kkn proof false t_ t_1 t_2 t_3 t_4 s s1 s2 s3 b i s4 s5)
theorem s_Advance.j3_nat {R S : Type} (g : R → Option S) (kkn : List ByteArray → Bool → ByteArray → Bool → Int → ByteArray → ByteArray → Int → ByteArray → ByteArray → ByteArray → Bool → Int → ByteArray → ByteArray → Option R) (proof : List ByteArray) (t_ : ByteArray) (t_1 : Bool) (t_2 : Int) (t_3 : ByteArray) (t_4 : ByteArray) (s : Int) (s1 : ByteArray) (s2 : ByteArray) (s3 : ByteArray) (b : Bool) (i : Int) (s4 : ByteArray) (s5 : ByteArray) : s_Advance.j3 (fun y0 y1 y2 y3 y4 y5 y6 y7 y8 y9 y10 y11 y12 y13 y14 => (kkn y0 y1 y2 y3 y4 y5 y6 y7 y8 y9 y10 y11 y12 y13 y14).bind g) proof t_ t_1 t_2 t_3 t_4 s s1 s2 s3 b i s4 s5 = (s_Advance.j3 kkn proof t_ t_1 t_2 t_3 t_4 s s1 s2 s3 b i s4 s5).bind g := by
  simp only [s_Advance.j3, grd_bind, cnd_bind, bnd_bind, non_bind]
def s_Advance.F {R : Type} (kk : ByteArray → Bool → Int → ByteArray → ByteArray → Int → Option R) (t_Key : ByteArray) (t_Has : Bool) (t_Size : Int) (t_Log : ByteArray) (t_Map : ByteArray) (s_Size : Int) (s_Log : ByteArray) (s_Map : ByteArray) (x_Index : Int) (x_Parts : List ByteArray) (x_Path : List ByteArray) (proof : List ByteArray) : Option R :=
  cond (decide ((List.length proof : Int) > (4096 : Int))) (kk ByteArray.empty false (0 : Int) ByteArray.empty ByteArray.empty (2 : Int)) (
    (s_TrustOK t_Key t_Has t_Size t_Log t_Map).bind fun r =>
    cond (!r) (kk ByteArray.empty false (0 : Int) ByteArray.empty ByteArray.empty (1 : Int)) (
      (s_l15Statement s_Size s_Log s_Map).bind fun r1 =>
      cond (!r1) (kk ByteArray.empty false (0 : Int) ByteArray.empty ByteArray.empty (1 : Int)) (
        (s_l06Hashes proof).bind fun r2 =>
        cond (!r2) (kk ByteArray.empty false (0 : Int) ByteArray.empty ByteArray.empty (1 : Int)) (
          (s_l15Text s_Size s_Log s_Map).bind fun r3 =>
          (s_VerifySignature t_Key r3 x_Index x_Parts x_Path).bind fun r4 =>
          cond (r4 != (0 : Int)) (kk t_Key t_Has t_Size t_Log t_Map r4) (
            s_Advance.j2 (fun proof1 t_ t_1 t_2 t_3 t_4 s s1 s2 s3 b i s4 s5 =>
              s_Advance.j3 (fun proof2 b1 t_5 t_6 t_7 t_8 t_9 s6 s7 s8 s9 b2 i1 s10 s11 =>
                cond (b1) (
                  (s_l06Both fuel t_7 s6 t_8 proof2 true).bind fun r5 =>
                  cond (!r5.2.2) (kk t_5 t_6 t_7 t_8 t_9 (10 : Int)) (
                    cond (!(sEq r5.1 t_8)) (kk t_5 t_6 t_7 t_8 t_9 (19 : Int)) (
                      cond (!(sEq r5.2.1 s7)) (kk t_5 t_6 t_7 t_8 t_9 (19 : Int)) (kk t_5 true s6 s7 s8 (0 : Int))))) (
                  cond (decide ((List.length proof2 : Int) > (0 : Int))) (kk t_5 t_6 t_7 t_8 t_9 (10 : Int)) (kk t_5 true s6 s7 s8 (0 : Int)))) proof1 t_ t_1 t_2 t_3 t_4 s s1 s2 s3 b i s4 s5) (fun i2 s12 b3 i3 s13 s14 => kk s12 b3 i3 s13 s14 i2) proof t_Key t_Has t_Size t_Log t_Map s_Size s_Log s_Map ByteArray.empty false (0 : Int) ByteArray.empty ByteArray.empty)))))
theorem s_Advance.F_nat {R S : Type} (g : R → Option S) (kk : ByteArray → Bool → Int → ByteArray → ByteArray → Int → Option R) (t_Key : ByteArray) (t_Has : Bool) (t_Size : Int) (t_Log : ByteArray) (t_Map : ByteArray) (s_Size : Int) (s_Log : ByteArray) (s_Map : ByteArray) (x_Index : Int) (x_Parts : List ByteArray) (x_Path : List ByteArray) (proof : List ByteArray) : s_Advance.F (fun y0 y1 y2 y3 y4 y5 => (kk y0 y1 y2 y3 y4 y5).bind g) t_Key t_Has t_Size t_Log t_Map s_Size s_Log s_Map x_Index x_Parts x_Path proof = (s_Advance.F kk t_Key t_Has t_Size t_Log t_Map s_Size s_Log s_Map x_Index x_Parts x_Path proof).bind g := by
  simp only [s_Advance.F, grd_bind, cnd_bind, bnd_bind, non_bind, ← s_Advance.j2_nat, ← s_Advance.j3_nat]
def s_Advance (t_Key : ByteArray) (t_Has : Bool) (t_Size : Int) (t_Log : ByteArray) (t_Map : ByteArray) (s_Size : Int) (s_Log : ByteArray) (s_Map : ByteArray) (x_Index : Int) (x_Parts : List ByteArray) (x_Path : List ByteArray) (proof : List ByteArray) : Option (ByteArray × Bool × Int × ByteArray × ByteArray × Int) := s_Advance.F (fun y0 y1 y2 y3 y4 y5 => some (y0, y1, y2, y3, y4, y5)) t_Key t_Has t_Size t_Log t_Map s_Size s_Log s_Map x_Index x_Parts x_Path proof
theorem s_Advance_nat {S : Type} (g : (ByteArray × Bool × Int × ByteArray × ByteArray × Int) → Option S) (t_Key : ByteArray) (t_Has : Bool) (t_Size : Int) (t_Log : ByteArray) (t_Map : ByteArray) (s_Size : Int) (s_Log : ByteArray) (s_Map : ByteArray) (x_Index : Int) (x_Parts : List ByteArray) (x_Path : List ByteArray) (proof : List ByteArray) : s_Advance.F (fun y0 y1 y2 y3 y4 y5 => g (y0, y1, y2, y3, y4, y5)) t_Key t_Has t_Size t_Log t_Map s_Size s_Log s_Map x_Index x_Parts x_Path proof = (s_Advance t_Key t_Has t_Size t_Log t_Map s_Size s_Log s_Map x_Index x_Parts x_Path proof).bind g := s_Advance.F_nat g (fun y0 y1 y2 y3 y4 y5 => some (y0, y1, y2, y3, y4, y5)) t_Key t_Has t_Size t_Log t_Map s_Size s_Log s_Map x_Index x_Parts x_Path proof
def s_Advance.out : (ByteArray × Bool × Int × ByteArray × ByteArray × Int) → CRes := fun a => ⟨encL SV.enc [.agg [.str, .bool, .int .i64, .str, .str], .one (.int .i64)] ((a.1, a.2.1, a.2.2.1, a.2.2.2.1, a.2.2.2.2.1, ()), a.2.2.2.2.2, ()), [encL SC.enc [] (), encL SC.enc [] (), encL SC.enc [] (), encL SC.enc [] ()]⟩
def s_Advance.ps : List PS := [.val [none, none, none, none, none], .val [none, none, none], .val [none, some (.str, false), some (.str, false)], .val [some (.str, false)]]
def s_Advance.sA : List SA := [.v (.agg [.str, .bool, .int .i64, .str, .str]), .v (.agg [.int .i64, .str, .str]), .v (.agg [.int .i64, .slv [] .str, .slv [] .str]), .v (.one (.slv [] .str))]
def s_Advance.fi : FI := FIs s_Advance.sA (ByteArray × Bool × Int × ByteArray × ByteArray × Int) (fun t => s_Advance t.1.1 t.1.2.1 t.1.2.2.1 t.1.2.2.2.1 t.1.2.2.2.2.1 t.2.1.1 t.2.1.2.1 t.2.1.2.2.1 t.2.2.1.1 t.2.2.1.2.1 t.2.2.1.2.2.1 t.2.2.2.1) s_Advance.out s_Advance.ps
def s_Advance.E : Env := ⟨tt, lkF [(68, s_TrustOK.fi), (69, s_l15Statement.fi), (70, s_l06Hashes.fi), (71, s_VerifySignature.fi), (72, s_l15Text.fi), (73, s_l06Both.fi fuel)], 131, 0, [], []⟩
def s_Advance.sh1 : SK := ⟨[.v (.one (.slv [4] .str)), .v (.one (.bptr 0 0)), .v (.one (.bptr 1 0)), .v (.one (.bptr 2 0))], [.box [.str, .bool, .int .i64, .str, .str], .box [.int .i64, .str, .str], .box [.str, .bool, .int .i64, .str, .str]]⟩
def s_Advance.sh1n : SK := ⟨[.v (.one (.slv [4] .str)), .v (.one (.bptr 0 0)), .v (.one (.bptr 1 0)), .v (.one (.bptr 2 0)), .v (.one (.bool))], [.box [.str, .bool, .int .i64, .str, .str], .box [.int .i64, .str, .str], .box [.str, .bool, .int .i64, .str, .str]]⟩
def s_Advance.ko1 : Ex → List CastAt × List Nat
  | .nrm => ([], [3, 4, 5, 8, 42])
  | .ret => ([], [])
  | .ext i => ([], [])
def s_Advance.G1 (R : Type) (t : s_Advance.sh1.T) (K : Ex → Kp → Option R) : Option R := s_Advance.j1 (fun y0 y1 y2 y3 y4 y5 y6 y7 y8 y9 y10 y11 y12 y13 y14 => K .nrm (SK.enc s_Advance.sh1n ((y0, (), (), (), y1, ()), ((y2, y3, y4, y5, y6, ()), (y7, y8, y9, ()), (y10, y11, y12, y13, y14, ()), ())))) t.1.1 t.2.1.1 t.2.1.2.1 t.2.1.2.2.1 t.2.1.2.2.2.1 t.2.1.2.2.2.2.1 t.2.2.1.1 t.2.2.1.2.1 t.2.2.1.2.2.1 t.2.2.2.1.1 t.2.2.2.1.2.1 t.2.2.2.1.2.2.1 t.2.2.2.1.2.2.2.1 t.2.2.2.1.2.2.2.2.1
def s_Advance.S1 : Sum := ⟨([], [3, 4, 5, 8]), sumF s_Advance.sh1 (s_Advance.G1), s_Advance.ko1⟩
theorem s_Advance.ok1 (hE : EOk Tryz.prog (s_Advance.E)) : SumOk Tryz.prog s_Advance.E (cL (cB (cL (cR (cR (cR (cR (bodyOf Tryz.f30)))))))) (s_Advance.S1) := by
  have hh : HintOk Tryz.prog s_Advance.E (cL (cB (cL (cR (cR (cR (cR (bodyOf Tryz.f30)))))))) (.a) := HintOk.n1 (Q := True) (by kernel_rfl) trivial
  exact sumS (kin := ([], [3, 4, 5, 8])) (kout := s_Advance.ko1) (sh := s_Advance.sh1) (F := s_Advance.G1) (ops_ok (hE.gv _)) (by kernel_rfl) hh (fun R t K => by kernel_rfl)
def s_Advance.sh2 : SK := ⟨[.v (.one (.slv [4] .str)), .v (.one (.bptr 0 0)), .v (.one (.bptr 1 0)), .v (.one (.bptr 2 0))], [.box [.str, .bool, .int .i64, .str, .str], .box [.int .i64, .str, .str], .box [.str, .bool, .int .i64, .str, .str]]⟩
def s_Advance.sh2n : SK := ⟨[.v (.one (.slv [4] .str)), .v (.one (.bptr 0 0)), .v (.one (.bptr 1 0)), .v (.one (.bptr 2 0))], [.box [.str, .bool, .int .i64, .str, .str], .box [.int .i64, .str, .str], .box [.str, .bool, .int .i64, .str, .str]]⟩
def s_Advance.sh2r : SK := ⟨[.v (.one (.bptr 0 0)), .v (.one (.int .i64))], [.box [.str, .bool, .int .i64, .str, .str]]⟩
def s_Advance.ko2 : Ex → List CastAt × List Nat
  | .nrm => ([], [3, 4, 5, 8])
  | .ret => ([], [8, 9])
  | .ext i => ([], [])
def s_Advance.G2 (R : Type) (t : s_Advance.sh2.T) (K : Ex → Kp → Option R) : Option R := s_Advance.j2 (fun y0 y1 y2 y3 y4 y5 y6 y7 y8 y9 y10 y11 y12 y13 => K .nrm (SK.enc s_Advance.sh2n ((y0, (), (), (), ()), ((y1, y2, y3, y4, y5, ()), (y6, y7, y8, ()), (y9, y10, y11, y12, y13, ()), ())))) (fun y0 y1 y2 y3 y4 y5 => K .ret (SK.enc s_Advance.sh2r (((), y0, ()), ((y1, y2, y3, y4, y5, ()), ())))) t.1.1 t.2.1.1 t.2.1.2.1 t.2.1.2.2.1 t.2.1.2.2.2.1 t.2.1.2.2.2.2.1 t.2.2.1.1 t.2.2.1.2.1 t.2.2.1.2.2.1 t.2.2.2.1.1 t.2.2.2.1.2.1 t.2.2.2.1.2.2.1 t.2.2.2.1.2.2.2.1 t.2.2.2.1.2.2.2.2.1
def s_Advance.S2 : Sum := ⟨([], [3, 4, 5, 8]), sumF s_Advance.sh2 (s_Advance.G2), s_Advance.ko2⟩
theorem s_Advance.ok2 (hE : EOk Tryz.prog (s_Advance.E)) : SumOk Tryz.prog s_Advance.E (cL (cR (cR (cR (cR (bodyOf Tryz.f30)))))) (s_Advance.S2) := by
  have hh : HintOk Tryz.prog s_Advance.E (cL (cR (cR (cR (cR (bodyOf Tryz.f30)))))) (.b (.n (.s (s_Advance.S1)) (.a))) := HintOk.n1 (Q := (SumOk Tryz.prog s_Advance.E (cL (cB (cL (cR (cR (cR (cR (bodyOf Tryz.f30)))))))) (s_Advance.S1)) ∧ (True)) (by kernel_rfl) ⟨(s_Advance.ok1 hE), trivial⟩
  exact sumS (kin := ([], [3, 4, 5, 8])) (kout := s_Advance.ko2) (sh := s_Advance.sh2) (F := s_Advance.G2) (ops_ok (hE.gv _)) (by kernel_rfl) hh (fun R t K => by kernel_rfl)
def s_Advance.sh3 : SK := ⟨[.v (.one (.slv [4] .str)), .v (.one (.bptr 0 0)), .v (.one (.bptr 1 0)), .v (.one (.bptr 2 0))], [.box [.str, .bool, .int .i64, .str, .str], .box [.int .i64, .str, .str], .box [.str, .bool, .int .i64, .str, .str]]⟩
def s_Advance.sh3n : SK := ⟨[.v (.one (.slv [4] .str)), .v (.one (.bptr 0 0)), .v (.one (.bptr 1 0)), .v (.one (.bptr 2 0)), .v (.one (.bool))], [.box [.str, .bool, .int .i64, .str, .str], .box [.int .i64, .str, .str], .box [.str, .bool, .int .i64, .str, .str]]⟩
def s_Advance.ko3 : Ex → List CastAt × List Nat
  | .nrm => ([], [3, 4, 5, 8, 91])
  | .ret => ([], [])
  | .ext i => ([], [])
def s_Advance.G3 (R : Type) (t : s_Advance.sh3.T) (K : Ex → Kp → Option R) : Option R := s_Advance.j3 (fun y0 y1 y2 y3 y4 y5 y6 y7 y8 y9 y10 y11 y12 y13 y14 => K .nrm (SK.enc s_Advance.sh3n ((y0, (), (), (), y1, ()), ((y2, y3, y4, y5, y6, ()), (y7, y8, y9, ()), (y10, y11, y12, y13, y14, ()), ())))) t.1.1 t.2.1.1 t.2.1.2.1 t.2.1.2.2.1 t.2.1.2.2.2.1 t.2.1.2.2.2.2.1 t.2.2.1.1 t.2.2.1.2.1 t.2.2.1.2.2.1 t.2.2.2.1.1 t.2.2.2.1.2.1 t.2.2.2.1.2.2.1 t.2.2.2.1.2.2.2.1 t.2.2.2.1.2.2.2.2.1
def s_Advance.S3 : Sum := ⟨([], [3, 4, 5, 8]), sumF s_Advance.sh3 (s_Advance.G3), s_Advance.ko3⟩
theorem s_Advance.ok3 (hE : EOk Tryz.prog (s_Advance.E)) : SumOk Tryz.prog s_Advance.E (cL (cL (cR (cR (cR (cR (cR (bodyOf Tryz.f30)))))))) (s_Advance.S3) := by
  have hh : HintOk Tryz.prog s_Advance.E (cL (cL (cR (cR (cR (cR (cR (bodyOf Tryz.f30)))))))) (.a) := HintOk.n1 (Q := True) (by kernel_rfl) trivial
  exact sumS (kin := ([], [3, 4, 5, 8])) (kout := s_Advance.ko3) (sh := s_Advance.sh3) (F := s_Advance.G3) (ops_ok (hE.gv _)) (by kernel_rfl) hh (fun R t K => by kernel_rfl)
theorem s_Advance.hok (hE : EOk Tryz.prog (s_Advance.E)) : HintOk Tryz.prog s_Advance.E (bodyOf Tryz.f30) (.n (.a) (.n (.a) (.n (.a) (.n (.a) (.n (.s (s_Advance.S2)) (.n (.n (.s (s_Advance.S3)) (.a)) (.a))))))) := HintOk.n1 (Q := (True) ∧ ((True) ∧ ((True) ∧ ((True) ∧ ((SumOk Tryz.prog s_Advance.E (cL (cR (cR (cR (cR (bodyOf Tryz.f30)))))) (s_Advance.S2)) ∧ (((SumOk Tryz.prog s_Advance.E (cL (cL (cR (cR (cR (cR (cR (bodyOf Tryz.f30)))))))) (s_Advance.S3)) ∧ (True)) ∧ (True))))))) (by kernel_rfl) ⟨trivial, ⟨trivial, ⟨trivial, ⟨trivial, ⟨(s_Advance.ok2 hE), ⟨⟨(s_Advance.ok3 hE), trivial⟩, trivial⟩⟩⟩⟩⟩⟩
theorem s_Advance.hE : EOk Tryz.prog (s_Advance.E) := EOk.of ttOk (⟨s_TrustOK.fok, ⟨s_l15Statement.fok, ⟨s_l06Hashes.fok, ⟨s_VerifySignature.fok, ⟨s_l15Text.fok, ⟨s_l06Both.fok fuel, trivial⟩⟩⟩⟩⟩⟩)
theorem s_Advance.fok : FOk Tryz.prog 30 s_Advance.fi :=
  fokS (E := s_Advance.E) (wy := ⟨[[none, none, none, none, none], [none]], [[], [], [], []], []⟩) (h := (fun gs => .n (.a) (.n (.a) (.n (.a) (.n (.a) (.n (.s (s_Advance.S2)) (.n (.n (.s (s_Advance.S3)) (.a)) (.a)))))))) (G := fun t g => s_Advance.F (fun y0 y1 y2 y3 y4 y5 => g (y0, y1, y2, y3, y4, y5)) t.1.1 t.1.2.1 t.1.2.2.1 t.1.2.2.2.1 t.1.2.2.2.2.1 t.2.1.1 t.2.1.2.1 t.2.1.2.2.1 t.2.2.1.1 t.2.2.1.2.1 t.2.2.1.2.2.1 t.2.2.2.1) (by kernel_rfl) s_Advance.hE Tryz.func30 (by kernel_rfl) rfl (Nat.le_refl _) (fun t => HintOk.n1 (by kernel_rfl) (s_Advance.hok s_Advance.hE)) (fun t g => s_Advance_nat g t.1.1 t.1.2.1 t.1.2.2.1 t.1.2.2.2.1 t.1.2.2.2.2.1 t.2.1.1 t.2.1.2.1 t.2.1.2.2.1 t.2.2.1.1 t.2.2.1.2.1 t.2.2.1.2.2.1 t.2.2.2.1) (fun t => by kernel_rfl)
/-! loop.example_g00220_laws.toTrust -/
def l_toTrust.F {R : Type} (kk : ByteArray → Bool → Int → ByteArray → ByteArray → Option R) (a_Key : ByteArray) (a_Has : Bool) (a_Size : Int) (a_Log : ByteArray) (a_Map : ByteArray) : Option R :=
  kk a_Key a_Has a_Size a_Log a_Map
theorem l_toTrust.F_nat {R S : Type} (g : R → Option S) (kk : ByteArray → Bool → Int → ByteArray → ByteArray → Option R) (a_Key : ByteArray) (a_Has : Bool) (a_Size : Int) (a_Log : ByteArray) (a_Map : ByteArray) : l_toTrust.F (fun y0 y1 y2 y3 y4 => (kk y0 y1 y2 y3 y4).bind g) a_Key a_Has a_Size a_Log a_Map = (l_toTrust.F kk a_Key a_Has a_Size a_Log a_Map).bind g := by
  simp only [l_toTrust.F, grd_bind, cnd_bind, bnd_bind, non_bind]
def l_toTrust (a_Key : ByteArray) (a_Has : Bool) (a_Size : Int) (a_Log : ByteArray) (a_Map : ByteArray) : Option (ByteArray × Bool × Int × ByteArray × ByteArray) := l_toTrust.F (fun y0 y1 y2 y3 y4 => some (y0, y1, y2, y3, y4)) a_Key a_Has a_Size a_Log a_Map
theorem l_toTrust_nat {S : Type} (g : (ByteArray × Bool × Int × ByteArray × ByteArray) → Option S) (a_Key : ByteArray) (a_Has : Bool) (a_Size : Int) (a_Log : ByteArray) (a_Map : ByteArray) : l_toTrust.F (fun y0 y1 y2 y3 y4 => g (y0, y1, y2, y3, y4)) a_Key a_Has a_Size a_Log a_Map = (l_toTrust a_Key a_Has a_Size a_Log a_Map).bind g := l_toTrust.F_nat g (fun y0 y1 y2 y3 y4 => some (y0, y1, y2, y3, y4)) a_Key a_Has a_Size a_Log a_Map
def l_toTrust.out : (ByteArray × Bool × Int × ByteArray × ByteArray) → CRes := fun a => ⟨encL SV.enc [.agg [.str, .bool, .int .i64, .str, .str]] ((a.1, a.2.1, a.2.2.1, a.2.2.2.1, a.2.2.2.2, ()), ()), [encL SC.enc [] ()]⟩
def l_toTrust.ps : List PS := [.val [none, none, none, none, none]]
def l_toTrust.sA : List SA := [.v (.agg [.str, .bool, .int .i64, .str, .str])]
def l_toTrust.fi : FI := FIs l_toTrust.sA (ByteArray × Bool × Int × ByteArray × ByteArray) (fun t => l_toTrust t.1.1 t.1.2.1 t.1.2.2.1 t.1.2.2.2.1 t.1.2.2.2.2.1) l_toTrust.out l_toTrust.ps
def l_toTrust.E : Env := ⟨tt, lkF [], 20, 0, [], []⟩
theorem l_toTrust.hok (hE : EOk Tryz.prog (l_toTrust.E)) : HintOk Tryz.prog l_toTrust.E (bodyOf Tryz.f31) (.a) := HintOk.n1 (Q := True) (by kernel_rfl) trivial
theorem l_toTrust.hE : EOk Tryz.prog (l_toTrust.E) := EOk.of ttOk (trivial)
theorem l_toTrust.fok : FOk Tryz.prog 31 l_toTrust.fi :=
  fokS (E := l_toTrust.E) (wy := ⟨[[none, none, none, none, none]], [[]], []⟩) (h := (fun gs => .a)) (G := fun t g => l_toTrust.F (fun y0 y1 y2 y3 y4 => g (y0, y1, y2, y3, y4)) t.1.1 t.1.2.1 t.1.2.2.1 t.1.2.2.2.1 t.1.2.2.2.2.1) (by kernel_rfl) l_toTrust.hE Tryz.func31 (by kernel_rfl) rfl (Nat.le_refl _) (fun t => HintOk.n1 (by kernel_rfl) (l_toTrust.hok l_toTrust.hE)) (fun t g => l_toTrust_nat g t.1.1 t.1.2.1 t.1.2.2.1 t.1.2.2.2.1 t.1.2.2.2.2.1) (fun t => by kernel_rfl)
/-! loop.example_g00220_laws.toStatement -/
def l_toStatement.F {R : Type} (kk : Int → ByteArray → ByteArray → Option R) (a_Size : Int) (a_Log : ByteArray) (a_Map : ByteArray) : Option R :=
  kk a_Size a_Log a_Map
theorem l_toStatement.F_nat {R S : Type} (g : R → Option S) (kk : Int → ByteArray → ByteArray → Option R) (a_Size : Int) (a_Log : ByteArray) (a_Map : ByteArray) : l_toStatement.F (fun y0 y1 y2 => (kk y0 y1 y2).bind g) a_Size a_Log a_Map = (l_toStatement.F kk a_Size a_Log a_Map).bind g := by
  simp only [l_toStatement.F, grd_bind, cnd_bind, bnd_bind, non_bind]
def l_toStatement (a_Size : Int) (a_Log : ByteArray) (a_Map : ByteArray) : Option (Int × ByteArray × ByteArray) := l_toStatement.F (fun y0 y1 y2 => some (y0, y1, y2)) a_Size a_Log a_Map
theorem l_toStatement_nat {S : Type} (g : (Int × ByteArray × ByteArray) → Option S) (a_Size : Int) (a_Log : ByteArray) (a_Map : ByteArray) : l_toStatement.F (fun y0 y1 y2 => g (y0, y1, y2)) a_Size a_Log a_Map = (l_toStatement a_Size a_Log a_Map).bind g := l_toStatement.F_nat g (fun y0 y1 y2 => some (y0, y1, y2)) a_Size a_Log a_Map
def l_toStatement.out : (Int × ByteArray × ByteArray) → CRes := fun a => ⟨encL SV.enc [.agg [.int .i64, .str, .str]] ((a.1, a.2.1, a.2.2, ()), ()), [encL SC.enc [] ()]⟩
def l_toStatement.ps : List PS := [.val [none, none, none]]
def l_toStatement.sA : List SA := [.v (.agg [.int .i64, .str, .str])]
def l_toStatement.fi : FI := FIs l_toStatement.sA (Int × ByteArray × ByteArray) (fun t => l_toStatement t.1.1 t.1.2.1 t.1.2.2.1) l_toStatement.out l_toStatement.ps
def l_toStatement.E : Env := ⟨tt, lkF [], 14, 0, [], []⟩
theorem l_toStatement.hok (hE : EOk Tryz.prog (l_toStatement.E)) : HintOk Tryz.prog l_toStatement.E (bodyOf Tryz.f32) (.a) := HintOk.n1 (Q := True) (by kernel_rfl) trivial
theorem l_toStatement.hE : EOk Tryz.prog (l_toStatement.E) := EOk.of ttOk (trivial)
theorem l_toStatement.fok : FOk Tryz.prog 32 l_toStatement.fi :=
  fokS (E := l_toStatement.E) (wy := ⟨[[none, none, none]], [[]], []⟩) (h := (fun gs => .a)) (G := fun t g => l_toStatement.F (fun y0 y1 y2 => g (y0, y1, y2)) t.1.1 t.1.2.1 t.1.2.2.1) (by kernel_rfl) l_toStatement.hE Tryz.func32 (by kernel_rfl) rfl (Nat.le_refl _) (fun t => HintOk.n1 (by kernel_rfl) (l_toStatement.hok l_toStatement.hE)) (fun t g => l_toStatement_nat g t.1.1 t.1.2.1 t.1.2.2.1) (fun t => by kernel_rfl)
/-! loop.example_g00220_laws.toStringS -/
def l_toStringS.l1 {R : Type} (kke0 : List ByteArray → Option R) : Nat → List ByteArray → Int → List ByteArray → Option R
  | 0, _, _, _ => none
  | n + 1, a, i, out =>
    cond (decide (i < (List.length a : Int))) (
      grd (gIx i (List.length a)) <|
      grd (gIx i (List.length out)) <|
      l_toStringS.l1 kke0 n a (IntKind.wrap .i64 (i + (1 : Int))) (setE (.str : Kd) out (Int.toNat i) (rdE (.str : Kd) a (Int.toNat i)))) (kke0 out)
theorem l_toStringS.l1_nat {R S : Type} (g : R → Option S) (kke0 : List ByteArray → Option R) : ∀ (n : Nat) (a : List ByteArray) (i : Int) (out : List ByteArray), l_toStringS.l1 (fun y0 => (kke0 y0).bind g) n a i out = (l_toStringS.l1 kke0 n a i out).bind g := by
  intro n
  induction n with
  | zero => intros; rfl
  | succ n ih => intros; simp only [l_toStringS.l1, grd_bind, cnd_bind, bnd_bind, non_bind, ih]
def l_toStringS.F {R : Type} (kk : List ByteArray → Option R) (a : List ByteArray) : Option R :=
  grd (gMk (List.length a : Int) (List.length a : Int) 16) <|
  l_toStringS.l1 (fun out => kk out) fuel a (0 : Int) (List.replicate (Int.toNat (List.length a : Int)) ByteArray.empty)
theorem l_toStringS.F_nat {R S : Type} (g : R → Option S) (kk : List ByteArray → Option R) (a : List ByteArray) : l_toStringS.F (fun y0 => (kk y0).bind g) a = (l_toStringS.F kk a).bind g := by
  simp only [l_toStringS.F, grd_bind, cnd_bind, bnd_bind, non_bind, ← l_toStringS.l1_nat]
def l_toStringS (a : List ByteArray) : Option (List ByteArray) := l_toStringS.F (fun y0 => some y0) a
theorem l_toStringS_nat {S : Type} (g : (List ByteArray) → Option S) (a : List ByteArray) : l_toStringS.F (fun y0 => g y0) a = (l_toStringS a).bind g := l_toStringS.F_nat g (fun y0 => some y0) a
def l_toStringS.out : (List ByteArray) → CRes := fun a => ⟨encL SV.enc [.one (.own [] .str true)] (a, ()), [encL SC.enc [] ()]⟩
def l_toStringS.ps : List PS := [.val [some (.str, false)]]
def l_toStringS.sA : List SA := [.v (.one (.slv [] .str))]
def l_toStringS.fi : FI := FIs l_toStringS.sA (List ByteArray) (fun t => l_toStringS t.1) l_toStringS.out l_toStringS.ps
def l_toStringS.E : Env := ⟨tt, lkF [], 22, 0, [], []⟩
def l_toStringS.sh1 : SK := ⟨[.v (.one (.slv [1] .str)), .v (.one (.slo 0)), .v (.one (.int .i64))], [.arr .str [] true]⟩
def l_toStringS.sh1e0 : SK := ⟨[.v (.one (.slo 0))], [.arr .str [] true]⟩
def l_toStringS.ko1 : Ex → List CastAt × List Nat
  | .nrm => ([], [])
  | .ret => ([], [])
  | .ext i => cond (Nat.beq i 0) ([], [3]) ([], [])
def l_toStringS.G1 (n : Nat) (R : Type) (t : l_toStringS.sh1.T) (K : Ex → Kp → Option R) : Option R := l_toStringS.l1 (fun y0 => K (.ext 0) (SK.enc l_toStringS.sh1e0 (((), ()), (y0, ())))) n t.1.1 t.1.2.2.1 t.2.1
def l_toStringS.S1 : Sum := ⟨([], [0, 3, 4]), sumF l_toStringS.sh1 (l_toStringS.G1 fuel), l_toStringS.ko1⟩
theorem l_toStringS.ok1 (hE : EOk Tryz.prog (l_toStringS.E)) : SumOk Tryz.prog l_toStringS.E (cB (cR (cL (cR (cR (bodyOf Tryz.f34)))))) (l_toStringS.S1) := by
  have hh : HintOk Tryz.prog l_toStringS.E (cB (cB (cR (cL (cR (cR (bodyOf Tryz.f34))))))) (.a) := HintOk.n1 (Q := True) (by kernel_rfl) trivial
  have h := loopS (kin := ([], [0, 3, 4])) (kout := l_toStringS.ko1) (sh := l_toStringS.sh1) (F := l_toStringS.G1) (ops_ok (hE.gv _)) (by kernel_rfl) hh (fun _ _ _ => rfl) (fun n R t K => by kernel_rfl) fuel
  exact HintOk.n1 (c := (cB (cR (cL (cR (cR (bodyOf Tryz.f34))))))) (h := .s (l_toStringS.S1)) (P := Tryz.prog) (E := l_toStringS.E) (by kernel_rfl) h
theorem l_toStringS.hok (hE : EOk Tryz.prog (l_toStringS.E)) : HintOk Tryz.prog l_toStringS.E (bodyOf Tryz.f34) (.n (.a) (.n (.a) (.n (.n (.a) (.b (.s (l_toStringS.S1)))) (.a)))) := HintOk.n1 (Q := (True) ∧ ((True) ∧ (((True) ∧ (SumOk Tryz.prog l_toStringS.E (cB (cR (cL (cR (cR (bodyOf Tryz.f34)))))) (l_toStringS.S1))) ∧ (True)))) (by kernel_rfl) ⟨trivial, ⟨trivial, ⟨⟨trivial, (l_toStringS.ok1 hE)⟩, trivial⟩⟩⟩
theorem l_toStringS.hE : EOk Tryz.prog (l_toStringS.E) := EOk.of ttOk (trivial)
theorem l_toStringS.fok : FOk Tryz.prog 34 l_toStringS.fi :=
  fokS (E := l_toStringS.E) (wy := ⟨[[some (.str, true)]], [[]], []⟩) (h := (fun gs => .n (.a) (.n (.a) (.n (.n (.a) (.b (.s (l_toStringS.S1)))) (.a))))) (G := fun t g => l_toStringS.F (fun y0 => g y0) t.1) (by kernel_rfl) l_toStringS.hE Tryz.func34 (by kernel_rfl) rfl (Nat.le_refl _) (fun t => HintOk.n1 (by kernel_rfl) (l_toStringS.hok l_toStringS.hE)) (fun t g => l_toStringS_nat g t.1) (fun t => by kernel_rfl)
/-! loop.example_g00220_laws.toSignature -/
def l_toSignature.F {R : Type} (kk : Int → List ByteArray → List ByteArray → Option R) (a_Index : Int) (a_Parts : List ByteArray) (a_Path : List ByteArray) : Option R :=
  (l_toStringS a_Parts).bind fun r =>
  (l_toStringS a_Path).bind fun r1 =>
  kk a_Index r r1
theorem l_toSignature.F_nat {R S : Type} (g : R → Option S) (kk : Int → List ByteArray → List ByteArray → Option R) (a_Index : Int) (a_Parts : List ByteArray) (a_Path : List ByteArray) : l_toSignature.F (fun y0 y1 y2 => (kk y0 y1 y2).bind g) a_Index a_Parts a_Path = (l_toSignature.F kk a_Index a_Parts a_Path).bind g := by
  simp only [l_toSignature.F, grd_bind, cnd_bind, bnd_bind, non_bind]
def l_toSignature (a_Index : Int) (a_Parts : List ByteArray) (a_Path : List ByteArray) : Option (Int × List ByteArray × List ByteArray) := l_toSignature.F (fun y0 y1 y2 => some (y0, y1, y2)) a_Index a_Parts a_Path
theorem l_toSignature_nat {S : Type} (g : (Int × List ByteArray × List ByteArray) → Option S) (a_Index : Int) (a_Parts : List ByteArray) (a_Path : List ByteArray) : l_toSignature.F (fun y0 y1 y2 => g (y0, y1, y2)) a_Index a_Parts a_Path = (l_toSignature a_Index a_Parts a_Path).bind g := l_toSignature.F_nat g (fun y0 y1 y2 => some (y0, y1, y2)) a_Index a_Parts a_Path
def l_toSignature.out : (Int × List ByteArray × List ByteArray) → CRes := fun a => ⟨encL SV.enc [.agg [.int .i64, .own [] .str true, .own [] .str true]] ((a.1, a.2.1, a.2.2, ()), ()), [encL SC.enc [] ()]⟩
def l_toSignature.ps : List PS := [.val [none, some (.str, false), some (.str, false)]]
def l_toSignature.sA : List SA := [.v (.agg [.int .i64, .slv [] .str, .slv [] .str])]
def l_toSignature.fi : FI := FIs l_toSignature.sA (Int × List ByteArray × List ByteArray) (fun t => l_toSignature t.1.1 t.1.2.1 t.1.2.2.1) l_toSignature.out l_toSignature.ps
def l_toSignature.E : Env := ⟨tt, lkF [(34, l_toStringS.fi)], 16, 0, [], []⟩
theorem l_toSignature.hok (hE : EOk Tryz.prog (l_toSignature.E)) : HintOk Tryz.prog l_toSignature.E (bodyOf Tryz.f33) (.a) := HintOk.n1 (Q := True) (by kernel_rfl) trivial
theorem l_toSignature.hE : EOk Tryz.prog (l_toSignature.E) := EOk.of ttOk (⟨l_toStringS.fok, trivial⟩)
theorem l_toSignature.fok : FOk Tryz.prog 33 l_toSignature.fi :=
  fokS (E := l_toSignature.E) (wy := ⟨[[none, some (.str, true), some (.str, true)]], [[]], []⟩) (h := (fun gs => .a)) (G := fun t g => l_toSignature.F (fun y0 y1 y2 => g (y0, y1, y2)) t.1.1 t.1.2.1 t.1.2.2.1) (by kernel_rfl) l_toSignature.hE Tryz.func33 (by kernel_rfl) rfl (Nat.le_refl _) (fun t => HintOk.n1 (by kernel_rfl) (l_toSignature.hok l_toSignature.hE)) (fun t g => l_toSignature_nat g t.1.1 t.1.2.1 t.1.2.2.1) (fun t => by kernel_rfl)
/-! loop.example_g00220_impl.isList_string_ -/
def i_isList_string.F {R : Type} (kk : Bool → Option R) (list : List ByteArray) : Option R :=
  kk (decide ((List.length list : Int) ≤ (4096 : Int)))
theorem i_isList_string.F_nat {R S : Type} (g : R → Option S) (kk : Bool → Option R) (list : List ByteArray) : i_isList_string.F (fun y0 => (kk y0).bind g) list = (i_isList_string.F kk list).bind g := by
  simp only [i_isList_string.F, grd_bind, cnd_bind, bnd_bind, non_bind]
def i_isList_string (list : List ByteArray) : Option Bool := i_isList_string.F (fun y0 => some y0) list
theorem i_isList_string_nat {S : Type} (g : Bool → Option S) (list : List ByteArray) : i_isList_string.F (fun y0 => g y0) list = (i_isList_string list).bind g := i_isList_string.F_nat g (fun y0 => some y0) list
def i_isList_string.out : Bool → CRes := fun a => ⟨encL SV.enc [.one (.bool)] (a, ()), [encL SC.enc [] ()]⟩
def i_isList_string.ps : List PS := [.val [some (.str, false)]]
def i_isList_string.sA : List SA := [.v (.one (.slv [] .str))]
def i_isList_string.fi : FI := FIs i_isList_string.sA (Bool) (fun t => i_isList_string t.1) i_isList_string.out i_isList_string.ps
def i_isList_string.E : Env := ⟨tt, lkF [], 6, 0, [], []⟩
theorem i_isList_string.hok (hE : EOk Tryz.prog (i_isList_string.E)) : HintOk Tryz.prog i_isList_string.E (bodyOf Tryz.f58) (.a) := HintOk.n1 (Q := True) (by kernel_rfl) trivial
theorem i_isList_string.hE : EOk Tryz.prog (i_isList_string.E) := EOk.of ttOk (trivial)
theorem i_isList_string.fok : FOk Tryz.prog 58 i_isList_string.fi :=
  fokS (E := i_isList_string.E) (wy := ⟨[[none]], [[]], []⟩) (h := (fun gs => .a)) (G := fun t g => i_isList_string.F (fun y0 => g y0) t.1) (by kernel_rfl) i_isList_string.hE Tryz.func58 (by kernel_rfl) rfl (Nat.le_refl _) (fun t => HintOk.n1 (by kernel_rfl) (i_isList_string.hok i_isList_string.hE)) (fun t g => i_isList_string_nat g t.1) (fun t => by kernel_rfl)
end
end Go.Proofs.YtdpjbeeokimnaaaGreatDoorA
