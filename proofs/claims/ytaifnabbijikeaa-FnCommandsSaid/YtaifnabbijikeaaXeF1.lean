/-
  Functions of the program, and that the small machine's runs are these. No condition.
  Printed by wip/amp/main.py (a session's own program) out of Lean's print of the program; Lean's kernel checks it.
-/
import Derived.Test.YtaifnabbijikeaaXeF0
namespace Go.Proofs.YtaifnabbijikeaaA
open Go
noncomputable section
set_option linter.unusedVariables false
set_option linter.unusedSimpArgs false
set_option maxRecDepth 100000

/-! loop.example_g00220_impl.readEntry -/
def i_readEntry.F {R : Type} (kk : Int → Int → ByteArray → Bool → Option R) (s : ByteArray) : Option R :=
  (i_reader_number s false (4 : Int)).bind fun r =>
  (i_reader_number r.2.1 r.2.2 (1 : Int)).bind fun r1 =>
  (i_reader_counted r1.2.1 r1.2.2).bind fun r2 =>
  cond (!r2.2.2) (
    cond (sEq r2.2.1 ByteArray.empty) (
      (i_entryOK r.1 r1.1 r2.1).bind fun r3 =>
      kk r.1 r1.1 r2.1 r3) (kk r.1 r1.1 r2.1 false)) (kk r.1 r1.1 r2.1 false)
theorem i_readEntry.F_nat {R S : Type} (g : R → Option S) (kk : Int → Int → ByteArray → Bool → Option R) (s : ByteArray) : i_readEntry.F (fun y0 y1 y2 y3 => (kk y0 y1 y2 y3).bind g) s = (i_readEntry.F kk s).bind g := by
  simp only [i_readEntry.F, grd_bind, cnd_bind, bnd_bind, non_bind]
def i_readEntry (s : ByteArray) : Option (Int × Int × ByteArray × Bool) := i_readEntry.F (fun y0 y1 y2 y3 => some (y0, y1, y2, y3)) s
theorem i_readEntry_nat {S : Type} (g : (Int × Int × ByteArray × Bool) → Option S) (s : ByteArray) : i_readEntry.F (fun y0 y1 y2 y3 => g (y0, y1, y2, y3)) s = (i_readEntry s).bind g := i_readEntry.F_nat g (fun y0 y1 y2 y3 => some (y0, y1, y2, y3)) s
def i_readEntry.E : Env := ⟨tt, lkF [(21, i_entryOK.fi), (39, i_reader_number.fi), (40, i_reader_counted.fi)], 36, 0, [], []⟩
def i_readEntry.out : (Int × Int × ByteArray × Bool) → CRes := fun a => ⟨encL SV.enc [.agg [.int .i64, .int .i64, .str], .one (.bool)] ((a.1, a.2.1, a.2.2.1, ()), a.2.2.2, ()), [encL SC.enc [] ()]⟩
def i_readEntry.ps : List PS := [.val [none]]
def i_readEntry.sA : List SA := [.v (.one (.str))]
def i_readEntry.fi : FI := FIs i_readEntry.sA (Int × Int × ByteArray × Bool) (fun t => i_readEntry t.1) i_readEntry.out i_readEntry.ps
theorem i_readEntry.hok (hE : EOk Try.prog (i_readEntry.E)) : HintOk Try.prog i_readEntry.E (bodyOf Try.f25) (.a) := HintOk.n1 (Q := True) (by kernel_rfl) trivial
theorem i_readEntry.hE : EOk Try.prog (i_readEntry.E) := EOk.of ttOk (⟨i_entryOK.fok, ⟨i_reader_number.fok, ⟨i_reader_counted.fok, trivial⟩⟩⟩)
theorem i_readEntry.fok : FOk Try.prog 25 i_readEntry.fi :=
  fokS (E := i_readEntry.E) (wy := ⟨[[none, none, none], [none]], [[]], []⟩) (h := (fun gs => .a)) (G := fun t g => i_readEntry.F (fun y0 y1 y2 y3 => g (y0, y1, y2, y3)) t.1) (by kernel_rfl) i_readEntry.hE Try.func25 (by kernel_rfl) rfl (Nat.le_refl _) (fun t => HintOk.n1 (by kernel_rfl) (i_readEntry.hok i_readEntry.hE)) (fun t g => i_readEntry_nat g t.1) (fun t => by kernel_rfl)
/-! loop.example_g00220_impl.ReadEntry -/
def i_ReadEntry.F {R : Type} (kk : Int → Int → ByteArray → Int → Option R) (b : List Int) : Option R :=
  cond (decide ((List.length b : Int) > (65536 : Int))) (kk (0 : Int) (0 : Int) ByteArray.empty (2 : Int)) (
    (i_readEntry (strL b)).bind fun r =>
    cond (!r.2.2.2) (kk (0 : Int) (0 : Int) ByteArray.empty (3 : Int)) (kk r.1 r.2.1 r.2.2.1 (0 : Int)))
theorem i_ReadEntry.F_nat {R S : Type} (g : R → Option S) (kk : Int → Int → ByteArray → Int → Option R) (b : List Int) : i_ReadEntry.F (fun y0 y1 y2 y3 => (kk y0 y1 y2 y3).bind g) b = (i_ReadEntry.F kk b).bind g := by
  simp only [i_ReadEntry.F, grd_bind, cnd_bind, bnd_bind, non_bind]
def i_ReadEntry (b : List Int) : Option (Int × Int × ByteArray × Int) := i_ReadEntry.F (fun y0 y1 y2 y3 => some (y0, y1, y2, y3)) b
theorem i_ReadEntry_nat {S : Type} (g : (Int × Int × ByteArray × Int) → Option S) (b : List Int) : i_ReadEntry.F (fun y0 y1 y2 y3 => g (y0, y1, y2, y3)) b = (i_ReadEntry b).bind g := i_ReadEntry.F_nat g (fun y0 y1 y2 y3 => some (y0, y1, y2, y3)) b
def i_ReadEntry.E : Env := ⟨tt, lkF [(25, i_readEntry.fi)], 20, 0, [], []⟩
def i_ReadEntry.out : (Int × Int × ByteArray × Int) → CRes := fun a => ⟨encL SV.enc [.agg [.int .i64, .int .i64, .str], .one (.int .i64)] ((a.1, a.2.1, a.2.2.1, ()), a.2.2.2, ()), [encL SC.enc [] ()]⟩
def i_ReadEntry.ps : List PS := [.val [some ((.int .u8), false)]]
def i_ReadEntry.sA : List SA := [.v (.one (.slv [] (.int .u8)))]
def i_ReadEntry.fi : FI := FIs i_ReadEntry.sA (Int × Int × ByteArray × Int) (fun t => i_ReadEntry t.1) i_ReadEntry.out i_ReadEntry.ps
theorem i_ReadEntry.hok (hE : EOk Try.prog (i_ReadEntry.E)) : HintOk Try.prog i_ReadEntry.E (bodyOf Try.f11) (.a) := HintOk.n1 (Q := True) (by kernel_rfl) trivial
theorem i_ReadEntry.hE : EOk Try.prog (i_ReadEntry.E) := EOk.of ttOk (⟨i_readEntry.fok, trivial⟩)
theorem i_ReadEntry.fok : FOk Try.prog 11 i_ReadEntry.fi :=
  fokS (E := i_ReadEntry.E) (wy := ⟨[[none, none, none], [none]], [[]], []⟩) (h := (fun gs => .a)) (G := fun t g => i_ReadEntry.F (fun y0 y1 y2 y3 => g (y0, y1, y2, y3)) t.1) (by kernel_rfl) i_ReadEntry.hE Try.func11 (by kernel_rfl) rfl (Nat.le_refl _) (fun t => HintOk.n1 (by kernel_rfl) (i_ReadEntry.hok i_ReadEntry.hE)) (fun t g => i_ReadEntry_nat g t.1) (fun t => by kernel_rfl)
/-! __loop.example_g00220_spec.l02Reader_.number -/
def s_l02Reader_number.l1 {R : Type} (kke0 : Int → List Int → Int → Bool → Option R) (kkr : Int → List Int → Int → Bool → Option R) : Nat → Int → Int → Int → List Int → Int → Bool → Option R
  | 0, _, _, _, _, _, _ => none
  | n + 1, n_, out, i, r, r1, r2 =>
    cond (decide (i < n_)) (
      cond (r2) (kkr (0 : Int) r r1 true) (
        cond (decide (r1 ≥ (List.length r : Int))) (kkr (0 : Int) r r1 true) (
          grd (gIx r1 (List.length r)) <|
          s_l02Reader_number.l1 kke0 kkr n n_ (IntKind.wrap .i64 ((IntKind.wrap .i64 (out * (256 : Int))) + (IntKind.wrap .i64 (rdE (.int .u8 : Kd) r (Int.toNat r1))))) (IntKind.wrap .i64 (i + (1 : Int))) r (IntKind.wrap .i64 (r1 + (1 : Int))) r2))) (kke0 out r r1 r2)
theorem s_l02Reader_number.l1_nat {R S : Type} (g : R → Option S) (kke0 : Int → List Int → Int → Bool → Option R) (kkr : Int → List Int → Int → Bool → Option R) : ∀ (n : Nat) (n_ : Int) (out : Int) (i : Int) (r : List Int) (r1 : Int) (r2 : Bool), s_l02Reader_number.l1 (fun y0 y1 y2 y3 => (kke0 y0 y1 y2 y3).bind g) (fun y0 y1 y2 y3 => (kkr y0 y1 y2 y3).bind g) n n_ out i r r1 r2 = (s_l02Reader_number.l1 kke0 kkr n n_ out i r r1 r2).bind g := by
  intro n
  induction n with
  | zero => intros; rfl
  | succ n ih => intros; simp only [s_l02Reader_number.l1, grd_bind, cnd_bind, bnd_bind, non_bind, ih]
def s_l02Reader_number.F {R : Type} (kk : Int → List Int → Int → Bool → Option R) (r_b : List Int) (r_at : Int) (r_bad : Bool) (n_ : Int) : Option R :=
  s_l02Reader_number.l1 (fun out r r1 r2 => kk out r r1 r2) (fun i r3 r4 r5 => kk i r3 r4 r5) fuel n_ (0 : Int) (0 : Int) r_b r_at r_bad
theorem s_l02Reader_number.F_nat {R S : Type} (g : R → Option S) (kk : Int → List Int → Int → Bool → Option R) (r_b : List Int) (r_at : Int) (r_bad : Bool) (n_ : Int) : s_l02Reader_number.F (fun y0 y1 y2 y3 => (kk y0 y1 y2 y3).bind g) r_b r_at r_bad n_ = (s_l02Reader_number.F kk r_b r_at r_bad n_).bind g := by
  simp only [s_l02Reader_number.F, grd_bind, cnd_bind, bnd_bind, non_bind, ← s_l02Reader_number.l1_nat]
def s_l02Reader_number (r_b : List Int) (r_at : Int) (r_bad : Bool) (n_ : Int) : Option (Int × List Int × Int × Bool) := s_l02Reader_number.F (fun y0 y1 y2 y3 => some (y0, y1, y2, y3)) r_b r_at r_bad n_
theorem s_l02Reader_number_nat {S : Type} (g : (Int × List Int × Int × Bool) → Option S) (r_b : List Int) (r_at : Int) (r_bad : Bool) (n_ : Int) : s_l02Reader_number.F (fun y0 y1 y2 y3 => g (y0, y1, y2, y3)) r_b r_at r_bad n_ = (s_l02Reader_number r_b r_at r_bad n_).bind g := s_l02Reader_number.F_nat g (fun y0 y1 y2 y3 => some (y0, y1, y2, y3)) r_b r_at r_bad n_
def s_l02Reader_number.E : Env := ⟨tt, lkF [], 53, 1, [], []⟩
def s_l02Reader_number.sh1 : SK := ⟨[.v (.one (.bptr 0 0)), .v (.one (.int .i64)), .v (.one (.int .i64)), .v (.one (.int .i64))], [.box [.slv [1] (.int .u8), .int .i64, .bool]]⟩
def s_l02Reader_number.sh1e0 : SK := ⟨[.v (.one (.bptr 0 0)), .v (.one (.int .i64))], [.box [.slv [1] (.int .u8), .int .i64, .bool]]⟩
def s_l02Reader_number.sh1r : SK := ⟨[.v (.one (.bptr 0 0)), .v (.one (.int .i64))], [.box [.slv [1] (.int .u8), .int .i64, .bool]]⟩
def s_l02Reader_number.ko1 : Ex → List CastAt × List Nat
  | .nrm => ([], [])
  | .ret => ([], [0, 4])
  | .ext i => cond (Nat.beq i 0) ([], [0, 5]) ([], [])
def s_l02Reader_number.G1 (n : Nat) (R : Type) (t : s_l02Reader_number.sh1.T) (K : Ex → Kp → Option R) : Option R := s_l02Reader_number.l1 (fun y0 y1 y2 y3 => K (.ext 0) (SK.enc s_l02Reader_number.sh1e0 (((), y0, ()), ((y1, y2, y3, ()), ())))) (fun y0 y1 y2 y3 => K .ret (SK.enc s_l02Reader_number.sh1r (((), y0, ()), ((y1, y2, y3, ()), ())))) n t.1.2.1 t.1.2.2.1 t.1.2.2.2.1 t.2.1.1 t.2.1.2.1 t.2.1.2.2.1
def s_l02Reader_number.S1 : Sum := ⟨([], [0, 1, 5, 6]), sumF s_l02Reader_number.sh1 (s_l02Reader_number.G1 fuel), s_l02Reader_number.ko1⟩
theorem s_l02Reader_number.ok1 (hE : EOk Try.prog (s_l02Reader_number.E)) : SumOk Try.prog s_l02Reader_number.E (cB (cR (cL (cR (cR (bodyOf Try.f46)))))) (s_l02Reader_number.S1) := by
  have hh : HintOk Try.prog s_l02Reader_number.E (cB (cB (cR (cL (cR (cR (bodyOf Try.f46))))))) (.a) := HintOk.n1 (Q := True) (by kernel_rfl) trivial
  have h := loopS (kin := ([], [0, 1, 5, 6])) (kout := s_l02Reader_number.ko1) (sh := s_l02Reader_number.sh1) (F := s_l02Reader_number.G1) (ops_ok (hE.gv _)) (by kernel_rfl) hh (fun _ _ _ => rfl) (fun n R t K => by kernel_rfl) fuel
  exact HintOk.n1 (c := (cB (cR (cL (cR (cR (bodyOf Try.f46))))))) (h := .s (s_l02Reader_number.S1)) (P := Try.prog) (E := s_l02Reader_number.E) (by kernel_rfl) h
def s_l02Reader_number.out : (Int × List Int × Int × Bool) → CRes := fun a => ⟨encL SV.enc [.one (.int .i64)] (a.1, ()), [encL SC.enc [.slv [1] (.int .u8), .int .i64, .bool] (a.2.1, a.2.2.1, a.2.2.2, ()), encL SC.enc [] ()]⟩
def s_l02Reader_number.ps : List PS := [.ptr [some ((.int .u8), false), none, none], .val [none]]
def s_l02Reader_number.sA : List SA := [.ptr [.slv [] (.int .u8), .int .i64, .bool], .v (.one (.int .i64))]
def s_l02Reader_number.fi : FI := FIs s_l02Reader_number.sA (Int × List Int × Int × Bool) (fun t => s_l02Reader_number t.1.1 t.1.2.1 t.1.2.2.1 t.2.1) s_l02Reader_number.out s_l02Reader_number.ps
theorem s_l02Reader_number.hok (hE : EOk Try.prog (s_l02Reader_number.E)) : HintOk Try.prog s_l02Reader_number.E (bodyOf Try.f46) (.n (.a) (.n (.a) (.n (.n (.a) (.b (.s (s_l02Reader_number.S1)))) (.a)))) := HintOk.n1 (Q := (True) ∧ ((True) ∧ (((True) ∧ (SumOk Try.prog s_l02Reader_number.E (cB (cR (cL (cR (cR (bodyOf Try.f46)))))) (s_l02Reader_number.S1))) ∧ (True)))) (by kernel_rfl) ⟨trivial, ⟨trivial, ⟨⟨trivial, (s_l02Reader_number.ok1 hE)⟩, trivial⟩⟩⟩
theorem s_l02Reader_number.hE : EOk Try.prog (s_l02Reader_number.E) := EOk.of ttOk (trivial)
theorem s_l02Reader_number.fok : FOk Try.prog 46 s_l02Reader_number.fi :=
  fokS (E := s_l02Reader_number.E) (wy := ⟨[[none]], [[some ((.int .u8), false), none, none], []], []⟩) (h := (fun gs => .n (.a) (.n (.a) (.n (.n (.a) (.b (.s (s_l02Reader_number.S1)))) (.a))))) (G := fun t g => s_l02Reader_number.F (fun y0 y1 y2 y3 => g (y0, y1, y2, y3)) t.1.1 t.1.2.1 t.1.2.2.1 t.2.1) (by kernel_rfl) s_l02Reader_number.hE Try.func46 (by kernel_rfl) rfl (Nat.le_refl _) (fun t => HintOk.n1 (by kernel_rfl) (s_l02Reader_number.hok s_l02Reader_number.hE)) (fun t g => s_l02Reader_number_nat g t.1.1 t.1.2.1 t.1.2.2.1 t.2.1) (fun t => by kernel_rfl)
/-! __loop.example_g00220_spec.l02Reader_.text -/
def s_l02Reader_text.F {R : Type} (kk : ByteArray → List Int → Int → Bool → Option R) (r_b : List Int) (r_at : Int) (r_bad : Bool) (n_ : Int) : Option R :=
  cond (r_bad) (kk ByteArray.empty r_b r_at true) (
    cond (decide (n_ < (0 : Int))) (kk ByteArray.empty r_b r_at true) (
      cond (decide ((IntKind.wrap .i64 (r_at + n_)) > (List.length r_b : Int))) (kk ByteArray.empty r_b r_at true) (
        grd (gSl (IntKind.wrap .i64 ((IntKind.wrap .i64 (r_at + n_)) - n_)) (IntKind.wrap .i64 (r_at + n_)) (List.length r_b)) <|
        kk (strL (sub r_b (IntKind.wrap .i64 ((IntKind.wrap .i64 (r_at + n_)) - n_)) (IntKind.wrap .i64 (r_at + n_)))) r_b (IntKind.wrap .i64 (r_at + n_)) r_bad)))
theorem s_l02Reader_text.F_nat {R S : Type} (g : R → Option S) (kk : ByteArray → List Int → Int → Bool → Option R) (r_b : List Int) (r_at : Int) (r_bad : Bool) (n_ : Int) : s_l02Reader_text.F (fun y0 y1 y2 y3 => (kk y0 y1 y2 y3).bind g) r_b r_at r_bad n_ = (s_l02Reader_text.F kk r_b r_at r_bad n_).bind g := by
  simp only [s_l02Reader_text.F, grd_bind, cnd_bind, bnd_bind, non_bind]
def s_l02Reader_text (r_b : List Int) (r_at : Int) (r_bad : Bool) (n_ : Int) : Option (ByteArray × List Int × Int × Bool) := s_l02Reader_text.F (fun y0 y1 y2 y3 => some (y0, y1, y2, y3)) r_b r_at r_bad n_
theorem s_l02Reader_text_nat {S : Type} (g : (ByteArray × List Int × Int × Bool) → Option S) (r_b : List Int) (r_at : Int) (r_bad : Bool) (n_ : Int) : s_l02Reader_text.F (fun y0 y1 y2 y3 => g (y0, y1, y2, y3)) r_b r_at r_bad n_ = (s_l02Reader_text r_b r_at r_bad n_).bind g := s_l02Reader_text.F_nat g (fun y0 y1 y2 y3 => some (y0, y1, y2, y3)) r_b r_at r_bad n_
def s_l02Reader_text.E : Env := ⟨tt, lkF [], 54, 1, [], []⟩
def s_l02Reader_text.out : (ByteArray × List Int × Int × Bool) → CRes := fun a => ⟨encL SV.enc [.one (.str)] (a.1, ()), [encL SC.enc [.slv [1] (.int .u8), .int .i64, .bool] (a.2.1, a.2.2.1, a.2.2.2, ()), encL SC.enc [] ()]⟩
def s_l02Reader_text.ps : List PS := [.ptr [some ((.int .u8), false), none, none], .val [none]]
def s_l02Reader_text.sA : List SA := [.ptr [.slv [] (.int .u8), .int .i64, .bool], .v (.one (.int .i64))]
def s_l02Reader_text.fi : FI := FIs s_l02Reader_text.sA (ByteArray × List Int × Int × Bool) (fun t => s_l02Reader_text t.1.1 t.1.2.1 t.1.2.2.1 t.2.1) s_l02Reader_text.out s_l02Reader_text.ps
theorem s_l02Reader_text.hok (hE : EOk Try.prog (s_l02Reader_text.E)) : HintOk Try.prog s_l02Reader_text.E (bodyOf Try.f47) (.a) := HintOk.n1 (Q := True) (by kernel_rfl) trivial
theorem s_l02Reader_text.hE : EOk Try.prog (s_l02Reader_text.E) := EOk.of ttOk (trivial)
theorem s_l02Reader_text.fok : FOk Try.prog 47 s_l02Reader_text.fi :=
  fokS (E := s_l02Reader_text.E) (wy := ⟨[[none]], [[some ((.int .u8), false), none, none], []], []⟩) (h := (fun gs => .a)) (G := fun t g => s_l02Reader_text.F (fun y0 y1 y2 y3 => g (y0, y1, y2, y3)) t.1.1 t.1.2.1 t.1.2.2.1 t.2.1) (by kernel_rfl) s_l02Reader_text.hE Try.func47 (by kernel_rfl) rfl (Nat.le_refl _) (fun t => HintOk.n1 (by kernel_rfl) (s_l02Reader_text.hok s_l02Reader_text.hE)) (fun t g => s_l02Reader_text_nat g t.1.1 t.1.2.1 t.1.2.2.1 t.2.1) (fun t => by kernel_rfl)
/-! loop.example_g00220_spec.l02Read -/
def s_l02Read.F {R : Type} (kk : Int → Int → Int → ByteArray → ByteArray → Bool → Option R) (b : List Int) : Option R :=
  (s_l02Reader_number b (0 : Int) false (1 : Int)).bind fun r =>
  (s_l02Reader_number r.2.1 r.2.2.1 r.2.2.2 (2 : Int)).bind fun r1 =>
  (s_l02Reader_number r1.2.1 r1.2.2.1 r1.2.2.2 (2 : Int)).bind fun r2 =>
  (s_l02Reader_number r2.2.1 r2.2.2.1 r2.2.2.2 (1 : Int)).bind fun r3 =>
  (s_l02Reader_text r3.2.1 r3.2.2.1 r3.2.2.2 r3.1).bind fun r4 =>
  (s_l02Reader_number r4.2.1 r4.2.2.1 r4.2.2.2 (1 : Int)).bind fun r5 =>
  (s_l02Reader_text r5.2.1 r5.2.2.1 r5.2.2.2 r5.1).bind fun r6 =>
  cond (!r6.2.2.2) (
    cond (r6.2.2.1 == (List.length b : Int)) (
      (s_CommandOK r.1 r1.1 r2.1 r4.1 r6.1).bind fun r7 =>
      kk r.1 r1.1 r2.1 r4.1 r6.1 r7) (kk r.1 r1.1 r2.1 r4.1 r6.1 false)) (kk r.1 r1.1 r2.1 r4.1 r6.1 false)
theorem s_l02Read.F_nat {R S : Type} (g : R → Option S) (kk : Int → Int → Int → ByteArray → ByteArray → Bool → Option R) (b : List Int) : s_l02Read.F (fun y0 y1 y2 y3 y4 y5 => (kk y0 y1 y2 y3 y4 y5).bind g) b = (s_l02Read.F kk b).bind g := by
  simp only [s_l02Read.F, grd_bind, cnd_bind, bnd_bind, non_bind]
def s_l02Read (b : List Int) : Option (Int × Int × Int × ByteArray × ByteArray × Bool) := s_l02Read.F (fun y0 y1 y2 y3 y4 y5 => some (y0, y1, y2, y3, y4, y5)) b
theorem s_l02Read_nat {S : Type} (g : (Int × Int × Int × ByteArray × ByteArray × Bool) → Option S) (b : List Int) : s_l02Read.F (fun y0 y1 y2 y3 y4 y5 => g (y0, y1, y2, y3, y4, y5)) b = (s_l02Read b).bind g := s_l02Read.F_nat g (fun y0 y1 y2 y3 y4 y5 => some (y0, y1, y2, y3, y4, y5)) b
def s_l02Read.E : Env := ⟨tt, lkF [(17, s_CommandOK.fi), (46, s_l02Reader_number.fi), (47, s_l02Reader_text.fi)], 45, 0, [], []⟩
def s_l02Read.out : (Int × Int × Int × ByteArray × ByteArray × Bool) → CRes := fun a => ⟨encL SV.enc [.agg [.int .i64, .int .i64, .int .i64, .str, .str], .one (.bool)] ((a.1, a.2.1, a.2.2.1, a.2.2.2.1, a.2.2.2.2.1, ()), a.2.2.2.2.2, ()), [encL SC.enc [] ()]⟩
def s_l02Read.ps : List PS := [.val [some ((.int .u8), false)]]
def s_l02Read.sA : List SA := [.v (.one (.slv [] (.int .u8)))]
def s_l02Read.fi : FI := FIs s_l02Read.sA (Int × Int × Int × ByteArray × ByteArray × Bool) (fun t => s_l02Read t.1) s_l02Read.out s_l02Read.ps
theorem s_l02Read.hok (hE : EOk Try.prog (s_l02Read.E)) : HintOk Try.prog s_l02Read.E (bodyOf Try.f29) (.a) := HintOk.n1 (Q := True) (by kernel_rfl) trivial
theorem s_l02Read.hE : EOk Try.prog (s_l02Read.E) := EOk.of ttOk (⟨s_CommandOK.fok, ⟨s_l02Reader_number.fok, ⟨s_l02Reader_text.fok, trivial⟩⟩⟩)
theorem s_l02Read.fok : FOk Try.prog 29 s_l02Read.fi :=
  fokS (E := s_l02Read.E) (wy := ⟨[[none, none, none, none, none], [none]], [[]], []⟩) (h := (fun gs => .a)) (G := fun t g => s_l02Read.F (fun y0 y1 y2 y3 y4 y5 => g (y0, y1, y2, y3, y4, y5)) t.1) (by kernel_rfl) s_l02Read.hE Try.func29 (by kernel_rfl) rfl (Nat.le_refl _) (fun t => HintOk.n1 (by kernel_rfl) (s_l02Read.hok s_l02Read.hE)) (fun t g => s_l02Read_nat g t.1) (fun t => by kernel_rfl)
/-! loop.example_g00220_spec.ReadCommand -/
def s_ReadCommand.F {R : Type} (kk : Int → Int → Int → ByteArray → ByteArray → Int → Option R) (b : List Int) : Option R :=
  cond (decide ((List.length b : Int) > (65536 : Int))) (kk (0 : Int) (0 : Int) (0 : Int) ByteArray.empty ByteArray.empty (2 : Int)) (
    (s_l02Read b).bind fun r =>
    cond (!r.2.2.2.2.2) (kk (0 : Int) (0 : Int) (0 : Int) ByteArray.empty ByteArray.empty (3 : Int)) (kk r.1 r.2.1 r.2.2.1 r.2.2.2.1 r.2.2.2.2.1 (0 : Int)))
theorem s_ReadCommand.F_nat {R S : Type} (g : R → Option S) (kk : Int → Int → Int → ByteArray → ByteArray → Int → Option R) (b : List Int) : s_ReadCommand.F (fun y0 y1 y2 y3 y4 y5 => (kk y0 y1 y2 y3 y4 y5).bind g) b = (s_ReadCommand.F kk b).bind g := by
  simp only [s_ReadCommand.F, grd_bind, cnd_bind, bnd_bind, non_bind]
def s_ReadCommand (b : List Int) : Option (Int × Int × Int × ByteArray × ByteArray × Int) := s_ReadCommand.F (fun y0 y1 y2 y3 y4 y5 => some (y0, y1, y2, y3, y4, y5)) b
theorem s_ReadCommand_nat {S : Type} (g : (Int × Int × Int × ByteArray × ByteArray × Int) → Option S) (b : List Int) : s_ReadCommand.F (fun y0 y1 y2 y3 y4 y5 => g (y0, y1, y2, y3, y4, y5)) b = (s_ReadCommand b).bind g := s_ReadCommand.F_nat g (fun y0 y1 y2 y3 y4 y5 => some (y0, y1, y2, y3, y4, y5)) b
def s_ReadCommand.E : Env := ⟨tt, lkF [(29, s_l02Read.fi)], 19, 0, [], []⟩
def s_ReadCommand.out : (Int × Int × Int × ByteArray × ByteArray × Int) → CRes := fun a => ⟨encL SV.enc [.agg [.int .i64, .int .i64, .int .i64, .str, .str], .one (.int .i64)] ((a.1, a.2.1, a.2.2.1, a.2.2.2.1, a.2.2.2.2.1, ()), a.2.2.2.2.2, ()), [encL SC.enc [] ()]⟩
def s_ReadCommand.ps : List PS := [.val [some ((.int .u8), false)]]
def s_ReadCommand.sA : List SA := [.v (.one (.slv [] (.int .u8)))]
def s_ReadCommand.fi : FI := FIs s_ReadCommand.sA (Int × Int × Int × ByteArray × ByteArray × Int) (fun t => s_ReadCommand t.1) s_ReadCommand.out s_ReadCommand.ps
theorem s_ReadCommand.hok (hE : EOk Try.prog (s_ReadCommand.E)) : HintOk Try.prog s_ReadCommand.E (bodyOf Try.f13) (.a) := HintOk.n1 (Q := True) (by kernel_rfl) trivial
theorem s_ReadCommand.hE : EOk Try.prog (s_ReadCommand.E) := EOk.of ttOk (⟨s_l02Read.fok, trivial⟩)
theorem s_ReadCommand.fok : FOk Try.prog 13 s_ReadCommand.fi :=
  fokS (E := s_ReadCommand.E) (wy := ⟨[[none, none, none, none, none], [none]], [[]], []⟩) (h := (fun gs => .a)) (G := fun t g => s_ReadCommand.F (fun y0 y1 y2 y3 y4 y5 => g (y0, y1, y2, y3, y4, y5)) t.1) (by kernel_rfl) s_ReadCommand.hE Try.func13 (by kernel_rfl) rfl (Nat.le_refl _) (fun t => HintOk.n1 (by kernel_rfl) (s_ReadCommand.hok s_ReadCommand.hE)) (fun t g => s_ReadCommand_nat g t.1) (fun t => by kernel_rfl)
/-! loop.example_g00220_laws.FnCommands -/
def l_FnCommands.F {R : Type} (kk : Bool → Option R) (code : List Int) : Option R :=
  cond (decide ((List.length code : Int) > (1048576 : Int))) (kk true) (
    (s_CommandOf code).bind fun r =>
    (i_CommandBytes r.1 r.2.1 r.2.2.1 r.2.2.2.1 r.2.2.2.2).bind fun r1 =>
    (s_CommandBytes r.1 r.2.1 r.2.2.1 r.2.2.2.1 r.2.2.2.2).bind fun r2 =>
    (i_ReadCommand r1.1).bind fun r3 =>
    (s_EntryOf code).bind fun r4 =>
    (i_EntryBytes r4.1 r4.2.1 r4.2.2).bind fun r5 =>
    (s_EntryBytes r4.1 r4.2.1 r4.2.2).bind fun r6 =>
    (i_ReadEntry r5.1).bind fun r7 =>
    cond (r1.2 != (0 : Int)) (kk false) (
      cond (!(sEq (strL r1.1) (strL r2.1))) (kk false) (
        cond (r3.2.2.2.2.2 != (0 : Int)) (kk false) (
          cond (!((r3.1 == r.1) && ((r3.2.1 == r.2.1) && ((r3.2.2.1 == r.2.2.1) && ((sEq r3.2.2.2.1 r.2.2.2.1) && (sEq r3.2.2.2.2.1 r.2.2.2.2)))))) (kk false) (
            (i_CommandOK r.1 r.2.1 r.2.2.1 r.2.2.2.1 r.2.2.2.2).bind fun r8 =>
            cond (!r8) (kk false) (
              cond (r5.2 != (0 : Int)) (kk false) (
                cond (!(sEq (strL r5.1) (strL r6.1))) (kk false) (
                  cond (r7.2.2.2 != (0 : Int)) (kk false) (
                    cond (!((r7.1 == r4.1) && ((r7.2.1 == r4.2.1) && (sEq r7.2.2.1 r4.2.2)))) (kk false) (
                      (i_ReadCommand code).bind fun r9 =>
                      (s_ReadCommand code).bind fun r10 =>
                      cond (r9.2.2.2.2.2 != r10.2.2.2.2.2) (kk false) (
                        cond (r9.2.2.2.2.2 == (0 : Int)) (
                          (i_CommandBytes r9.1 r9.2.1 r9.2.2.1 r9.2.2.2.1 r9.2.2.2.2.1).bind fun r11 =>
                          cond (r11.2 == (0 : Int)) (kk (sEq (strL r11.1) (strL code))) (kk false)) (kk true))))))))))))
theorem l_FnCommands.F_nat {R S : Type} (g : R → Option S) (kk : Bool → Option R) (code : List Int) : l_FnCommands.F (fun y0 => (kk y0).bind g) code = (l_FnCommands.F kk code).bind g := by
  simp only [l_FnCommands.F, grd_bind, cnd_bind, bnd_bind, non_bind]
def l_FnCommands (code : List Int) : Option Bool := l_FnCommands.F (fun y0 => some y0) code
theorem l_FnCommands_nat {S : Type} (g : Bool → Option S) (code : List Int) : l_FnCommands.F (fun y0 => g y0) code = (l_FnCommands code).bind g := l_FnCommands.F_nat g (fun y0 => some y0) code
def l_FnCommands.E : Env := ⟨tt, lkF [(4, s_CommandOf.fi), (5, i_CommandBytes.fi), (6, s_CommandBytes.fi), (7, i_ReadCommand.fi), (8, s_EntryOf.fi), (9, i_EntryBytes.fi), (10, s_EntryBytes.fi), (11, i_ReadEntry.fi), (12, i_CommandOK.fi), (13, s_ReadCommand.fi)], 132, 0, [], []⟩
def l_FnCommands.out : Bool → CRes := fun a => ⟨encL SV.enc [.one (.bool)] (a, ()), [encL SC.enc [] ()]⟩
def l_FnCommands.ps : List PS := [.val [some ((.int .u8), false)]]
def l_FnCommands.sA : List SA := [.v (.one (.slv [] (.int .u8)))]
def l_FnCommands.fi : FI := FIs l_FnCommands.sA (Bool) (fun t => l_FnCommands t.1) l_FnCommands.out l_FnCommands.ps
theorem l_FnCommands.hok (hE : EOk Try.prog (l_FnCommands.E)) : HintOk Try.prog l_FnCommands.E (bodyOf Try.f3) (.a) := HintOk.n1 (Q := True) (by kernel_rfl) trivial
theorem l_FnCommands.hE : EOk Try.prog (l_FnCommands.E) := EOk.of ttOk (⟨s_CommandOf.fok, ⟨i_CommandBytes.fok, ⟨s_CommandBytes.fok, ⟨i_ReadCommand.fok, ⟨s_EntryOf.fok, ⟨i_EntryBytes.fok, ⟨s_EntryBytes.fok, ⟨i_ReadEntry.fok, ⟨i_CommandOK.fok, ⟨s_ReadCommand.fok, trivial⟩⟩⟩⟩⟩⟩⟩⟩⟩⟩)
theorem l_FnCommands.fok : FOk Try.prog 3 l_FnCommands.fi :=
  fokS (E := l_FnCommands.E) (wy := ⟨[[none]], [[]], []⟩) (h := (fun gs => .a)) (G := fun t g => l_FnCommands.F (fun y0 => g y0) t.1) (by kernel_rfl) l_FnCommands.hE Try.func3 (by kernel_rfl) rfl (Nat.le_refl _) (fun t => HintOk.n1 (by kernel_rfl) (l_FnCommands.hok l_FnCommands.hE)) (fun t g => l_FnCommands_nat g t.1) (fun t => by kernel_rfl)
end
end Go.Proofs.YtaifnabbijikeaaA
