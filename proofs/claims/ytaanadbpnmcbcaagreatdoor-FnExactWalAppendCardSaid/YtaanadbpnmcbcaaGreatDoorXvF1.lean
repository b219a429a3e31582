/-
  Functions of the program, and that the small machine's runs are these. No condition.
  Printed by wip/amp/main.py (a session's own program) out of Lean's print of the program; Lean's kernel checks it.
-/
import Derived.Test.YtaanadbpnmcbcaaGreatDoorXvF0
namespace Go.Proofs.YtaanadbpnmcbcaaGreatDoorA
open Go
noncomputable section
set_option linter.unusedVariables false
set_option linter.unusedSimpArgs false
set_option maxRecDepth 100000

/-! loop.example_g00220_spec.l03Put -/
def s_l03Put.j1 {R : Type} (kkn : Bool → Int → Int → List (El kFile) → ByteArray → ByteArray → Int → Int → Int → List (El kFile) → Option R) (put : Bool) (i : Int) (d : Int) (d1 : List (El kFile)) (f : ByteArray) (f1 : ByteArray) (f2 : Int) (i1 : Int) (out : Int) (l : List (El kFile)) : Option R :=
  cond (!put) (
    grd (gIx i (List.length d1)) <|
    cond (!(sLt (rdE kFile d1 (Int.toNat i)).1 f)) (
      grd (gRm (((List.length l) + (List.length [(f, (f1, f2))])) * 40)) <|
      kkn true i d d1 f f1 f2 i1 out (l ++ [(f, (f1, f2))])) (kkn put i d d1 f f1 f2 i1 out l)) (kkn put i d d1 f f1 f2 i1 out l)
theorem s_l03Put.j1_nat {R S : Type} (g : R → Option S) (kkn : Bool → Int → Int → List (El kFile) → ByteArray → ByteArray → Int → Int → Int → List (El kFile) → Option R) (put : Bool) (i : Int) (d : Int) (d1 : List (El kFile)) (f : ByteArray) (f1 : ByteArray) (f2 : Int) (i1 : Int) (out : Int) (l : List (El kFile)) : s_l03Put.j1 (fun y0 y1 y2 y3 y4 y5 y6 y7 y8 y9 => (kkn y0 y1 y2 y3 y4 y5 y6 y7 y8 y9).bind g) put i d d1 f f1 f2 i1 out l = (s_l03Put.j1 kkn put i d d1 f f1 f2 i1 out l).bind g := by
  simp only [s_l03Put.j1, grd_bind, cnd_bind, bnd_bind, non_bind]
def s_l03Put.l2 {R : Type} (kke0 : Bool → ByteArray → ByteArray → Int → Int → Int → List (El kFile) → Option R) : Nat → Bool → Int → Int → List (El kFile) → ByteArray → ByteArray → Int → Int → Int → List (El kFile) → Option R
  | 0, _, _, _, _, _, _, _, _, _, _ => none
  | n + 1, put, i, d, d1, f, f1, f2, i1, out, l =>
    cond (decide (i < (List.length d1 : Int))) (
      s_l03Put.j1 (fun put1 i2 d2 d3 f3 f4 f5 i3 out1 l1 =>
        grd (gIx i2 (List.length d3)) <|
        cond (!(sEq (rdE kFile d3 (Int.toNat i2)).1 f3)) (
          grd (gIx i2 (List.length d3)) <|
          grd (gRm (((List.length l1) + (List.length [rdE kFile d3 (Int.toNat i2)])) * 40)) <|
          s_l03Put.l2 kke0 n put1 (IntKind.wrap .i64 (i2 + (1 : Int))) d2 d3 f3 f4 f5 i3 out1 (l1 ++ [rdE kFile d3 (Int.toNat i2)])) (s_l03Put.l2 kke0 n put1 (IntKind.wrap .i64 (i2 + (1 : Int))) d2 d3 f3 f4 f5 i3 out1 l1)) put i d d1 f f1 f2 i1 out l) (kke0 put f f1 f2 i1 out l)
theorem s_l03Put.l2_nat {R S : Type} (g : R → Option S) (kke0 : Bool → ByteArray → ByteArray → Int → Int → Int → List (El kFile) → Option R) : ∀ (n : Nat) (put : Bool) (i : Int) (d : Int) (d1 : List (El kFile)) (f : ByteArray) (f1 : ByteArray) (f2 : Int) (i1 : Int) (out : Int) (l : List (El kFile)), s_l03Put.l2 (fun y0 y1 y2 y3 y4 y5 y6 => (kke0 y0 y1 y2 y3 y4 y5 y6).bind g) n put i d d1 f f1 f2 i1 out l = (s_l03Put.l2 kke0 n put i d d1 f f1 f2 i1 out l).bind g := by
  intro n
  induction n with
  | zero => intros; rfl
  | succ n ih => intros; simp only [s_l03Put.l2, grd_bind, cnd_bind, bnd_bind, non_bind, ← s_l03Put.j1_nat, ih]
def s_l03Put.F {R : Type} (kk : Int → List (El kFile) → Option R) (d_Room : Int) (d_Files : List (El kFile)) (f_Name : ByteArray) (f_Data : ByteArray) (f_Sure : Int) : Option R :=
  s_l03Put.l2 (fun put f f1 f2 i out l =>
    cond (!put) (
      grd (gRm (((List.length l) + (List.length [(f, (f1, f2))])) * 40)) <|
      kk out (l ++ [(f, (f1, f2))])) (kk out l)) fuel false (0 : Int) d_Room d_Files f_Name f_Data f_Sure (0 : Int) d_Room ([] : List (El kFile))
theorem s_l03Put.F_nat {R S : Type} (g : R → Option S) (kk : Int → List (El kFile) → Option R) (d_Room : Int) (d_Files : List (El kFile)) (f_Name : ByteArray) (f_Data : ByteArray) (f_Sure : Int) : s_l03Put.F (fun y0 y1 => (kk y0 y1).bind g) d_Room d_Files f_Name f_Data f_Sure = (s_l03Put.F kk d_Room d_Files f_Name f_Data f_Sure).bind g := by
  simp only [s_l03Put.F, grd_bind, cnd_bind, bnd_bind, non_bind, ← s_l03Put.l2_nat]
def s_l03Put (d_Room : Int) (d_Files : List (El kFile)) (f_Name : ByteArray) (f_Data : ByteArray) (f_Sure : Int) : Option (Int × List (El kFile)) := s_l03Put.F (fun y0 y1 => some (y0, y1)) d_Room d_Files f_Name f_Data f_Sure
theorem s_l03Put_nat {S : Type} (g : (Int × List (El kFile)) → Option S) (d_Room : Int) (d_Files : List (El kFile)) (f_Name : ByteArray) (f_Data : ByteArray) (f_Sure : Int) : s_l03Put.F (fun y0 y1 => g (y0, y1)) d_Room d_Files f_Name f_Data f_Sure = (s_l03Put d_Room d_Files f_Name f_Data f_Sure).bind g := s_l03Put.F_nat g (fun y0 y1 => some (y0, y1)) d_Room d_Files f_Name f_Data f_Sure
def s_l03Put.out : (Int × List (El kFile)) → CRes := fun a => ⟨encL SV.enc [.agg [.int .i64, .own [] kFile true]] ((a.1, a.2, ()), ()), [encL SC.enc [] (), encL SC.enc [] ()]⟩
def s_l03Put.ps : List PS := [.val [none, some (kFile, false)], .val [none, none, none]]
def s_l03Put.sA : List SA := [.v (.agg [.int .i64, .slv [] kFile]), .v (.agg [.str, .str, .int .i64])]
def s_l03Put.fi : FI := FIs s_l03Put.sA (Int × List (El kFile)) (fun t => s_l03Put t.1.1 t.1.2.1 t.2.1.1 t.2.1.2.1 t.2.1.2.2.1) s_l03Put.out s_l03Put.ps
def s_l03Put.E : Env := ⟨tt, lkF [], 66, 0, [], []⟩
def s_l03Put.sh1 : SK := ⟨[.v (.one (.bptr 0 0)), .v (.one (.bptr 1 0)), .v (.one (.bptr 2 0)), .v (.one (.bptr 3 0)), .v (.one (.bool)), .v (.one (.int .i64))], [.box [.int .i64, .slv [1] kFile], .box [.str, .str, .int .i64], .box [.int .i64, .nil], .box [.int .i64, .slo 4], .arr kFile [] true]⟩
def s_l03Put.sh1n : SK := ⟨[.v (.one (.bptr 0 0)), .v (.one (.bptr 1 0)), .v (.one (.bptr 2 0)), .v (.one (.bptr 3 0)), .v (.one (.bool)), .v (.one (.int .i64))], [.box [.int .i64, .slv [1] kFile], .box [.str, .str, .int .i64], .box [.int .i64, .nil], .box [.int .i64, .slo 4], .arr kFile [] true]⟩
def s_l03Put.ko1 : Ex → List CastAt × List Nat
  | .nrm => ([], [2, 3, 4, 5, 6, 7])
  | .ret => ([], [])
  | .ext i => ([], [])
def s_l03Put.G1 (R : Type) (t : s_l03Put.sh1.T) (K : Ex → Kp → Option R) : Option R := s_l03Put.j1 (fun y0 y1 y2 y3 y4 y5 y6 y7 y8 y9 => K .nrm (SK.enc s_l03Put.sh1n (((), (), (), (), y0, y1, ()), ((y2, y3, ()), (y4, y5, y6, ()), (y7, (), ()), (y8, (), ()), y9, ())))) t.1.2.2.2.2.1 t.1.2.2.2.2.2.1 t.2.1.1 t.2.1.2.1 t.2.2.1.1 t.2.2.1.2.1 t.2.2.1.2.2.1 t.2.2.2.1.1 t.2.2.2.2.1.1 t.2.2.2.2.2.1
def s_l03Put.S1 : Sum := ⟨([], [2, 3, 4, 5, 6, 7]), sumF s_l03Put.sh1 (s_l03Put.G1), s_l03Put.ko1⟩
theorem s_l03Put.ok1 (hE : EOk Tryz.prog (s_l03Put.E)) : SumOk Tryz.prog s_l03Put.E (cL (cB (cL (cR (cB (cB (cR (cL (cR (cR (cR (bodyOf Tryz.f125)))))))))))) (s_l03Put.S1) := by
  have hh : HintOk Tryz.prog s_l03Put.E (cL (cB (cL (cR (cB (cB (cR (cL (cR (cR (cR (bodyOf Tryz.f125)))))))))))) (.a) := HintOk.n1 (Q := True) (by kernel_rfl) trivial
  exact sumS (kin := ([], [2, 3, 4, 5, 6, 7])) (kout := s_l03Put.ko1) (sh := s_l03Put.sh1) (F := s_l03Put.G1) (ops_ok (hE.gv _)) (by kernel_rfl) hh (fun R t K => by kernel_rfl)
def s_l03Put.sh2 : SK := ⟨[.v (.one (.bptr 0 0)), .v (.one (.bptr 1 0)), .v (.one (.bptr 2 0)), .v (.one (.bptr 3 0)), .v (.one (.bool)), .v (.one (.int .i64))], [.box [.int .i64, .slv [1] kFile], .box [.str, .str, .int .i64], .box [.int .i64, .nil], .box [.int .i64, .slo 4], .arr kFile [] true]⟩
def s_l03Put.sh2e0 : SK := ⟨[.v (.one (.bptr 0 0)), .v (.one (.bptr 1 0)), .v (.one (.bptr 2 0)), .v (.one (.bool))], [.box [.str, .str, .int .i64], .box [.int .i64, .nil], .box [.int .i64, .slo 3], .arr kFile [] true]⟩
def s_l03Put.ko2 : Ex → List CastAt × List Nat
  | .nrm => ([], [])
  | .ret => ([], [])
  | .ext i => cond (Nat.beq i 0) ([], [3, 4, 5, 6]) ([], [])
def s_l03Put.G2 (n : Nat) (R : Type) (t : s_l03Put.sh2.T) (K : Ex → Kp → Option R) : Option R := s_l03Put.l2 (fun y0 y1 y2 y3 y4 y5 y6 => K (.ext 0) (SK.enc s_l03Put.sh2e0 (((), (), (), y0, ()), ((y1, y2, y3, ()), (y4, (), ()), (y5, (), ()), y6, ())))) n t.1.2.2.2.2.1 t.1.2.2.2.2.2.1 t.2.1.1 t.2.1.2.1 t.2.2.1.1 t.2.2.1.2.1 t.2.2.1.2.2.1 t.2.2.2.1.1 t.2.2.2.2.1.1 t.2.2.2.2.2.1
def s_l03Put.S2 : Sum := ⟨([], [2, 3, 4, 5, 6, 7]), sumF s_l03Put.sh2 (s_l03Put.G2 fuel), s_l03Put.ko2⟩
theorem s_l03Put.ok2 (hE : EOk Tryz.prog (s_l03Put.E)) : SumOk Tryz.prog s_l03Put.E (cB (cR (cL (cR (cR (cR (bodyOf Tryz.f125))))))) (s_l03Put.S2) := by
  have hh : HintOk Tryz.prog s_l03Put.E (cB (cB (cR (cL (cR (cR (cR (bodyOf Tryz.f125)))))))) (.n (.a) (.n (.b (.n (.s (s_l03Put.S1)) (.a))) (.a))) := HintOk.n1 (Q := (True) ∧ (((SumOk Tryz.prog s_l03Put.E (cL (cB (cL (cR (cB (cB (cR (cL (cR (cR (cR (bodyOf Tryz.f125)))))))))))) (s_l03Put.S1)) ∧ (True)) ∧ (True))) (by kernel_rfl) ⟨trivial, ⟨⟨(s_l03Put.ok1 hE), trivial⟩, trivial⟩⟩
  have h := loopS (kin := ([], [2, 3, 4, 5, 6, 7])) (kout := s_l03Put.ko2) (sh := s_l03Put.sh2) (F := s_l03Put.G2) (ops_ok (hE.gv _)) (by kernel_rfl) hh (fun _ _ _ => rfl) (fun n R t K => by kernel_rfl) fuel
  exact HintOk.n1 (c := (cB (cR (cL (cR (cR (cR (bodyOf Tryz.f125)))))))) (h := .s (s_l03Put.S2)) (P := Tryz.prog) (E := s_l03Put.E) (by kernel_rfl) h
theorem s_l03Put.hok (hE : EOk Tryz.prog (s_l03Put.E)) : HintOk Tryz.prog s_l03Put.E (bodyOf Tryz.f125) (.n (.a) (.n (.a) (.n (.a) (.n (.n (.a) (.b (.s (s_l03Put.S2)))) (.a))))) := HintOk.n1 (Q := (True) ∧ ((True) ∧ ((True) ∧ (((True) ∧ (SumOk Tryz.prog s_l03Put.E (cB (cR (cL (cR (cR (cR (bodyOf Tryz.f125))))))) (s_l03Put.S2))) ∧ (True))))) (by kernel_rfl) ⟨trivial, ⟨trivial, ⟨trivial, ⟨⟨trivial, (s_l03Put.ok2 hE)⟩, trivial⟩⟩⟩⟩
theorem s_l03Put.hE : EOk Tryz.prog (s_l03Put.E) := EOk.of ttOk (trivial)
theorem s_l03Put.fok : FOk Tryz.prog 125 s_l03Put.fi :=
  fokS (E := s_l03Put.E) (wy := ⟨[[none, some (kFile, true)]], [[], []], []⟩) (h := (fun gs => .n (.a) (.n (.a) (.n (.a) (.n (.n (.a) (.b (.s (s_l03Put.S2)))) (.a)))))) (G := fun t g => s_l03Put.F (fun y0 y1 => g (y0, y1)) t.1.1 t.1.2.1 t.2.1.1 t.2.1.2.1 t.2.1.2.2.1) (by kernel_rfl) s_l03Put.hE Tryz.func125 (by kernel_rfl) rfl (Nat.le_refl _) (fun t => HintOk.n1 (by kernel_rfl) (s_l03Put.hok s_l03Put.hE)) (fun t g => s_l03Put_nat g t.1.1 t.1.2.1 t.2.1.1 t.2.1.2.1 t.2.1.2.2.1) (fun t => by kernel_rfl)
/-! loop.example_g00220_spec.l03Append -/
def s_l03Append.j1 {R : Type} (kkn : Int → Bool → Int → List (El kFile) → Int → Int → ByteArray → ByteArray → ByteArray → List Int → Int → Option R) (k_ : Int) (d : Int) (d1 : List (El kFile)) (a : Int) (a1 : Int) (a2 : ByteArray) (a3 : ByteArray) (a4 : ByteArray) (a5 : List Int) (i : Int) : Option R :=
  cond (decide (k_ < (0 : Int))) (kkn k_ ((List.length d1 : Int) == (8 : Int)) d d1 a a1 a2 a3 a4 a5 i) (kkn k_ false d d1 a a1 a2 a3 a4 a5 i)
theorem s_l03Append.j1_nat {R S : Type} (g : R → Option S) (kkn : Int → Bool → Int → List (El kFile) → Int → Int → ByteArray → ByteArray → ByteArray → List Int → Int → Option R) (k_ : Int) (d : Int) (d1 : List (El kFile)) (a : Int) (a1 : Int) (a2 : ByteArray) (a3 : ByteArray) (a4 : ByteArray) (a5 : List Int) (i : Int) : s_l03Append.j1 (fun y0 y1 y2 y3 y4 y5 y6 y7 y8 y9 y10 => (kkn y0 y1 y2 y3 y4 y5 y6 y7 y8 y9 y10).bind g) k_ d d1 a a1 a2 a3 a4 a5 i = (s_l03Append.j1 kkn k_ d d1 a a1 a2 a3 a4 a5 i).bind g := by
  simp only [s_l03Append.j1, grd_bind, cnd_bind, bnd_bind, non_bind]
def s_l03Append.j2 {R : Type} (kkn : Int → List (El kFile) → Int → Int → ByteArray → ByteArray → ByteArray → List Int → Int → ByteArray → ByteArray → Int → Option R) (k_ : Int) (d : Int) (d1 : List (El kFile)) (a : Int) (a1 : Int) (a2 : ByteArray) (a3 : ByteArray) (a4 : ByteArray) (a5 : List Int) (i : Int) (f : ByteArray) (f1 : ByteArray) (f2 : Int) : Option R :=
  cond (decide (k_ ≥ (0 : Int))) (
    grd (gIx k_ (List.length d1)) <|
    kkn d d1 a a1 a2 a3 a4 a5 i (rdE kFile d1 (Int.toNat k_)).1 (rdE kFile d1 (Int.toNat k_)).2.1 (rdE kFile d1 (Int.toNat k_)).2.2) (kkn d d1 a a1 a2 a3 a4 a5 i f f1 f2)
theorem s_l03Append.j2_nat {R S : Type} (g : R → Option S) (kkn : Int → List (El kFile) → Int → Int → ByteArray → ByteArray → ByteArray → List Int → Int → ByteArray → ByteArray → Int → Option R) (k_ : Int) (d : Int) (d1 : List (El kFile)) (a : Int) (a1 : Int) (a2 : ByteArray) (a3 : ByteArray) (a4 : ByteArray) (a5 : List Int) (i : Int) (f : ByteArray) (f1 : ByteArray) (f2 : Int) : s_l03Append.j2 (fun y0 y1 y2 y3 y4 y5 y6 y7 y8 y9 y10 y11 => (kkn y0 y1 y2 y3 y4 y5 y6 y7 y8 y9 y10 y11).bind g) k_ d d1 a a1 a2 a3 a4 a5 i f f1 f2 = (s_l03Append.j2 kkn k_ d d1 a a1 a2 a3 a4 a5 i f f1 f2).bind g := by
  simp only [s_l03Append.j2, grd_bind, cnd_bind, bnd_bind, non_bind]
def s_l03Append.F {R : Type} (kk : Int → List (El kFile) → Int → Option R) (d_Room : Int) (d_Files : List (El kFile)) (a_Kind : Int) (a_N : Int) (a_Name : ByteArray) (a_To : ByteArray) (a_Data : ByteArray) (a_Keep : List Int) : Option R :=
  (s_l03Find d_Room d_Files a_Name).bind fun r =>
  (s_NameOK a_Name).bind fun r1 =>
  cond (!r1) (kk d_Room d_Files (1 : Int)) (
    s_l03Append.j1 (fun k_ b d d1 a a1 a2 a3 a4 a5 i =>
      cond (b) (kk d d1 (7 : Int)) (
        (s_l03Used d d1).bind fun r2 =>
        cond (decide ((IntKind.wrap .i64 (r2 + (ByteArray.size a4 : Int))) > d)) (kk d d1 (7 : Int)) (
          s_l03Append.j2 (fun d2 d3 a6 a7 a8 a9 a10 a11 i1 f f1 f2 =>
            grd (gCat f1 a10) <|
            (s_l03Put d2 d3 f (f1 ++ a10) f2).bind fun r3 =>
            kk r3.1 r3.2 (0 : Int)) k_ d d1 a a1 a2 a3 a4 a5 i a2 ByteArray.empty (0 : Int)))) r d_Room d_Files a_Kind a_N a_Name a_To a_Data a_Keep (0 : Int))
theorem s_l03Append.F_nat {R S : Type} (g : R → Option S) (kk : Int → List (El kFile) → Int → Option R) (d_Room : Int) (d_Files : List (El kFile)) (a_Kind : Int) (a_N : Int) (a_Name : ByteArray) (a_To : ByteArray) (a_Data : ByteArray) (a_Keep : List Int) : s_l03Append.F (fun y0 y1 y2 => (kk y0 y1 y2).bind g) d_Room d_Files a_Kind a_N a_Name a_To a_Data a_Keep = (s_l03Append.F kk d_Room d_Files a_Kind a_N a_Name a_To a_Data a_Keep).bind g := by
  simp only [s_l03Append.F, grd_bind, cnd_bind, bnd_bind, non_bind, ← s_l03Append.j1_nat, ← s_l03Append.j2_nat]
def s_l03Append (d_Room : Int) (d_Files : List (El kFile)) (a_Kind : Int) (a_N : Int) (a_Name : ByteArray) (a_To : ByteArray) (a_Data : ByteArray) (a_Keep : List Int) : Option (Int × List (El kFile) × Int) := s_l03Append.F (fun y0 y1 y2 => some (y0, y1, y2)) d_Room d_Files a_Kind a_N a_Name a_To a_Data a_Keep
theorem s_l03Append_nat {S : Type} (g : (Int × List (El kFile) × Int) → Option S) (d_Room : Int) (d_Files : List (El kFile)) (a_Kind : Int) (a_N : Int) (a_Name : ByteArray) (a_To : ByteArray) (a_Data : ByteArray) (a_Keep : List Int) : s_l03Append.F (fun y0 y1 y2 => g (y0, y1, y2)) d_Room d_Files a_Kind a_N a_Name a_To a_Data a_Keep = (s_l03Append d_Room d_Files a_Kind a_N a_Name a_To a_Data a_Keep).bind g := s_l03Append.F_nat g (fun y0 y1 y2 => some (y0, y1, y2)) d_Room d_Files a_Kind a_N a_Name a_To a_Data a_Keep
def s_l03Append.out : (Int × List (El kFile) × Int) → CRes := fun a => ⟨encL SV.enc [.agg [.int .i64, .slv [0, 1] kFile], .one (.int .i64)] ((a.1, a.2.1, ()), a.2.2, ()), [encL SC.enc [] (), encL SC.enc [] ()]⟩
def s_l03Append.ps : List PS := [.val [none, some (kFile, false)], .val [none, none, none, none, none, some ((.int .i64), false)]]
def s_l03Append.sA : List SA := [.v (.agg [.int .i64, .slv [] kFile]), .v (.agg [.int .i64, .int .i64, .str, .str, .str, .slv [] (.int .i64)])]
def s_l03Append.fi : FI := FIs s_l03Append.sA (Int × List (El kFile) × Int) (fun t => s_l03Append t.1.1 t.1.2.1 t.2.1.1 t.2.1.2.1 t.2.1.2.2.1 t.2.1.2.2.2.1 t.2.1.2.2.2.2.1 t.2.1.2.2.2.2.2.1) s_l03Append.out s_l03Append.ps
def s_l03Append.E : Env := ⟨tt, lkF [(120, s_NameOK.fi), (121, s_l03Used.fi), (124, s_l03Find.fi), (125, s_l03Put.fi)], 58, 0, [], []⟩
def s_l03Append.sh1 : SK := ⟨[.v (.one (.bptr 0 0)), .v (.one (.bptr 1 0)), .v (.one (.bptr 2 0)), .v (.one (.int .i64))], [.box [.int .i64, .slv [1] kFile], .box [.int .i64, .int .i64, .str, .str, .str, .slv [2] (.int .i64)], .box [.int .i64, .nil]]⟩
def s_l03Append.sh1n : SK := ⟨[.v (.one (.bptr 0 0)), .v (.one (.bptr 1 0)), .v (.one (.bptr 2 0)), .v (.one (.int .i64)), .v (.one (.bool))], [.box [.int .i64, .slv [1] kFile], .box [.int .i64, .int .i64, .str, .str, .str, .slv [2] (.int .i64)], .box [.int .i64, .nil]]⟩
def s_l03Append.ko1 : Ex → List CastAt × List Nat
  | .nrm => ([], [2, 3, 4, 6, 18])
  | .ret => ([], [])
  | .ext i => ([], [])
def s_l03Append.G1 (R : Type) (t : s_l03Append.sh1.T) (K : Ex → Kp → Option R) : Option R := s_l03Append.j1 (fun y0 y1 y2 y3 y4 y5 y6 y7 y8 y9 y10 => K .nrm (SK.enc s_l03Append.sh1n (((), (), (), y0, y1, ()), ((y2, y3, ()), (y4, y5, y6, y7, y8, y9, ()), (y10, (), ()), ())))) t.1.2.2.2.1 t.2.1.1 t.2.1.2.1 t.2.2.1.1 t.2.2.1.2.1 t.2.2.1.2.2.1 t.2.2.1.2.2.2.1 t.2.2.1.2.2.2.2.1 t.2.2.1.2.2.2.2.2.1 t.2.2.2.1.1
def s_l03Append.S1 : Sum := ⟨([], [2, 3, 4, 6]), sumF s_l03Append.sh1 (s_l03Append.G1), s_l03Append.ko1⟩
theorem s_l03Append.ok1 (hE : EOk Tryz.prog (s_l03Append.E)) : SumOk Tryz.prog s_l03Append.E (cL (cR (cR (cB (cL (cR (cR (bodyOf Tryz.f122)))))))) (s_l03Append.S1) := by
  have hh : HintOk Tryz.prog s_l03Append.E (cL (cR (cR (cB (cL (cR (cR (bodyOf Tryz.f122)))))))) (.a) := HintOk.n1 (Q := True) (by kernel_rfl) trivial
  exact sumS (kin := ([], [2, 3, 4, 6])) (kout := s_l03Append.ko1) (sh := s_l03Append.sh1) (F := s_l03Append.G1) (ops_ok (hE.gv _)) (by kernel_rfl) hh (fun R t K => by kernel_rfl)
def s_l03Append.sh2 : SK := ⟨[.v (.one (.bptr 0 0)), .v (.one (.bptr 1 0)), .v (.one (.bptr 2 0)), .v (.one (.int .i64)), .v (.one (.bptr 3 0))], [.box [.int .i64, .slv [1] kFile], .box [.int .i64, .int .i64, .str, .str, .str, .slv [2] (.int .i64)], .box [.int .i64, .nil], .box [.str, .str, .int .i64]]⟩
def s_l03Append.sh2n : SK := ⟨[.v (.one (.bptr 0 0)), .v (.one (.bptr 1 0)), .v (.one (.bptr 2 0)), .v (.one (.bptr 3 0))], [.box [.int .i64, .slv [1] kFile], .box [.int .i64, .int .i64, .str, .str, .str, .slv [2] (.int .i64)], .box [.int .i64, .nil], .box [.str, .str, .int .i64]]⟩
def s_l03Append.ko2 : Ex → List CastAt × List Nat
  | .nrm => ([], [2, 3, 4, 7])
  | .ret => ([], [])
  | .ext i => ([], [])
def s_l03Append.G2 (R : Type) (t : s_l03Append.sh2.T) (K : Ex → Kp → Option R) : Option R := s_l03Append.j2 (fun y0 y1 y2 y3 y4 y5 y6 y7 y8 y9 y10 y11 => K .nrm (SK.enc s_l03Append.sh2n (((), (), (), (), ()), ((y0, y1, ()), (y2, y3, y4, y5, y6, y7, ()), (y8, (), ()), (y9, y10, y11, ()), ())))) t.1.2.2.2.1 t.2.1.1 t.2.1.2.1 t.2.2.1.1 t.2.2.1.2.1 t.2.2.1.2.2.1 t.2.2.1.2.2.2.1 t.2.2.1.2.2.2.2.1 t.2.2.1.2.2.2.2.2.1 t.2.2.2.1.1 t.2.2.2.2.1.1 t.2.2.2.2.1.2.1 t.2.2.2.2.1.2.2.1
def s_l03Append.S2 : Sum := ⟨([], [2, 3, 4, 6, 7]), sumF s_l03Append.sh2 (s_l03Append.G2), s_l03Append.ko2⟩
theorem s_l03Append.ok2 (hE : EOk Tryz.prog (s_l03Append.E)) : SumOk Tryz.prog s_l03Append.E (cL (cR (cR (cR (cR (bodyOf Tryz.f122)))))) (s_l03Append.S2) := by
  have hh : HintOk Tryz.prog s_l03Append.E (cL (cR (cR (cR (cR (bodyOf Tryz.f122)))))) (.a) := HintOk.n1 (Q := True) (by kernel_rfl) trivial
  exact sumS (kin := ([], [2, 3, 4, 6, 7])) (kout := s_l03Append.ko2) (sh := s_l03Append.sh2) (F := s_l03Append.G2) (ops_ok (hE.gv _)) (by kernel_rfl) hh (fun R t K => by kernel_rfl)
theorem s_l03Append.hok (hE : EOk Tryz.prog (s_l03Append.E)) : HintOk Tryz.prog s_l03Append.E (bodyOf Tryz.f122) (.n (.a) (.n (.a) (.n (.b (.n (.a) (.n (.a) (.n (.s (s_l03Append.S1)) (.a))))) (.n (.a) (.n (.s (s_l03Append.S2)) (.a)))))) := HintOk.n1 (Q := (True) ∧ ((True) ∧ (((True) ∧ ((True) ∧ ((SumOk Tryz.prog s_l03Append.E (cL (cR (cR (cB (cL (cR (cR (bodyOf Tryz.f122)))))))) (s_l03Append.S1)) ∧ (True)))) ∧ ((True) ∧ ((SumOk Tryz.prog s_l03Append.E (cL (cR (cR (cR (cR (bodyOf Tryz.f122)))))) (s_l03Append.S2)) ∧ (True)))))) (by kernel_rfl) ⟨trivial, ⟨trivial, ⟨⟨trivial, ⟨trivial, ⟨(s_l03Append.ok1 hE), trivial⟩⟩⟩, ⟨trivial, ⟨(s_l03Append.ok2 hE), trivial⟩⟩⟩⟩⟩
theorem s_l03Append.hE : EOk Tryz.prog (s_l03Append.E) := EOk.of ttOk (⟨s_NameOK.fok, ⟨s_l03Used.fok, ⟨s_l03Find.fok, ⟨s_l03Put.fok, trivial⟩⟩⟩⟩)
theorem s_l03Append.fok : FOk Tryz.prog 122 s_l03Append.fi :=
  fokS (E := s_l03Append.E) (wy := ⟨[[none, some (kFile, false)], [none]], [[], []], [⟨4, true, 1, .slv [0, 1] kFile⟩]⟩) (h := (fun gs => .n (.a) (.n (.a) (.n (.b (.n (.a) (.n (.a) (.n (.s (s_l03Append.S1)) (.a))))) (.n (.a) (.n (.s (s_l03Append.S2)) (.a))))))) (G := fun t g => s_l03Append.F (fun y0 y1 y2 => g (y0, y1, y2)) t.1.1 t.1.2.1 t.2.1.1 t.2.1.2.1 t.2.1.2.2.1 t.2.1.2.2.2.1 t.2.1.2.2.2.2.1 t.2.1.2.2.2.2.2.1) (by kernel_rfl) s_l03Append.hE Tryz.func122 (by kernel_rfl) rfl (Nat.le_refl _) (fun t => HintOk.n1 (by kernel_rfl) (s_l03Append.hok s_l03Append.hE)) (fun t g => s_l03Append_nat g t.1.1 t.1.2.1 t.2.1.1 t.2.1.2.1 t.2.1.2.2.1 t.2.1.2.2.2.1 t.2.1.2.2.2.2.1 t.2.1.2.2.2.2.2.1) (fun t => by kernel_rfl)
/-! loop.example_g00220_spec.l03Crash -/
def s_l03Crash.j1 {R : Type} (kkn : List Int → Int → Nat → Int → Int → Int → List (El kFile) → Option R) (keep : List Int) (i : Int) (f : Nat) (n_ : Int) (i1 : Int) (out : Int) (f1 : List (El kFile)) : Option R :=
  cond (decide (i < (List.length keep : Int))) (
    grd (gIx i (List.length keep)) <|
    kkn keep i f (mx2 (rdE kFile f1 f).2.2 (mn2 (ByteArray.size (rdE kFile f1 f).2.1 : Int) (IntKind.wrap .i64 ((rdE kFile f1 f).2.2 + (mn2 (3000 : Int) (rdE (.int .i64 : Kd) keep (Int.toNat i))))))) i1 out f1) (kkn keep i f n_ i1 out f1)
theorem s_l03Crash.j1_nat {R S : Type} (g : R → Option S) (kkn : List Int → Int → Nat → Int → Int → Int → List (El kFile) → Option R) (keep : List Int) (i : Int) (f : Nat) (n_ : Int) (i1 : Int) (out : Int) (f1 : List (El kFile)) : s_l03Crash.j1 (fun y0 y1 y2 y3 y4 y5 y6 => (kkn y0 y1 y2 y3 y4 y5 y6).bind g) keep i f n_ i1 out f1 = (s_l03Crash.j1 kkn keep i f n_ i1 out f1).bind g := by
  simp only [s_l03Crash.j1, grd_bind, cnd_bind, bnd_bind, non_bind]
def s_l03Crash.l2 {R : Type} (kke0 : Int → Int → List (El kFile) → Option R) : Nat → List Int → Int → Int → Int → List (El kFile) → Option R
  | 0, _, _, _, _, _ => none
  | n + 1, keep, i, i1, out, l =>
    cond (decide (i < (List.length l : Int))) (
      grd (gIx i (List.length l)) <|
      s_l03Crash.j1 (fun keep1 i2 f n_ i3 out1 f1 =>
        grd (gSl (0 : Int) n_ (ByteArray.size (rdE kFile f1 f).2.1)) <|
        s_l03Crash.l2 kke0 n keep1 (IntKind.wrap .i64 (i2 + (1 : Int))) i3 out1 (setE kFile (setE kFile f1 f ((rdE kFile f1 f).1, (cut (rdE kFile f1 f).2.1 (0 : Int) n_, (rdE kFile f1 f).2.2))) f ((rdE kFile (setE kFile f1 f ((rdE kFile f1 f).1, (cut (rdE kFile f1 f).2.1 (0 : Int) n_, (rdE kFile f1 f).2.2))) f).1, ((rdE kFile (setE kFile f1 f ((rdE kFile f1 f).1, (cut (rdE kFile f1 f).2.1 (0 : Int) n_, (rdE kFile f1 f).2.2))) f).2.1, n_)))) keep i (Int.toNat i) (rdE kFile l (Int.toNat i)).2.2 i1 out l) (kke0 i1 out l)
theorem s_l03Crash.l2_nat {R S : Type} (g : R → Option S) (kke0 : Int → Int → List (El kFile) → Option R) : ∀ (n : Nat) (keep : List Int) (i : Int) (i1 : Int) (out : Int) (l : List (El kFile)), s_l03Crash.l2 (fun y0 y1 y2 => (kke0 y0 y1 y2).bind g) n keep i i1 out l = (s_l03Crash.l2 kke0 n keep i i1 out l).bind g := by
  intro n
  induction n with
  | zero => intros; rfl
  | succ n ih => intros; simp only [s_l03Crash.l2, grd_bind, cnd_bind, bnd_bind, non_bind, ← s_l03Crash.j1_nat, ih]
def s_l03Crash.F {R : Type} (kk : Int → List (El kFile) → Option R) (d_Room : Int) (d_Files : List (El kFile)) (keep : List Int) : Option R :=
  (s_l03Own d_Room d_Files).bind fun r =>
  s_l03Crash.l2 (fun i out l => kk out l) fuel keep (0 : Int) (0 : Int) r.1 r.2
theorem s_l03Crash.F_nat {R S : Type} (g : R → Option S) (kk : Int → List (El kFile) → Option R) (d_Room : Int) (d_Files : List (El kFile)) (keep : List Int) : s_l03Crash.F (fun y0 y1 => (kk y0 y1).bind g) d_Room d_Files keep = (s_l03Crash.F kk d_Room d_Files keep).bind g := by
  simp only [s_l03Crash.F, grd_bind, cnd_bind, bnd_bind, non_bind, ← s_l03Crash.l2_nat]
def s_l03Crash (d_Room : Int) (d_Files : List (El kFile)) (keep : List Int) : Option (Int × List (El kFile)) := s_l03Crash.F (fun y0 y1 => some (y0, y1)) d_Room d_Files keep
theorem s_l03Crash_nat {S : Type} (g : (Int × List (El kFile)) → Option S) (d_Room : Int) (d_Files : List (El kFile)) (keep : List Int) : s_l03Crash.F (fun y0 y1 => g (y0, y1)) d_Room d_Files keep = (s_l03Crash d_Room d_Files keep).bind g := s_l03Crash.F_nat g (fun y0 y1 => some (y0, y1)) d_Room d_Files keep
def s_l03Crash.out : (Int × List (El kFile)) → CRes := fun a => ⟨encL SV.enc [.agg [.int .i64, .own [] kFile true]] ((a.1, a.2, ()), ()), [encL SC.enc [] (), encL SC.enc [] ()]⟩
def s_l03Crash.ps : List PS := [.val [none, some (kFile, false)], .val [some ((.int .i64), false)]]
def s_l03Crash.sA : List SA := [.v (.agg [.int .i64, .slv [] kFile]), .v (.one (.slv [] (.int .i64)))]
def s_l03Crash.fi : FI := FIs s_l03Crash.sA (Int × List (El kFile)) (fun t => s_l03Crash t.1.1 t.1.2.1 t.2.1) s_l03Crash.out s_l03Crash.ps
def s_l03Crash.E : Env := ⟨tt, lkF [(50, s_l03Own.fi)], 65, 0, [], []⟩
def s_l03Crash.sh1 : SK := ⟨[.v (.one (.slv [2] (.int .i64))), .v (.one (.bptr 0 0)), .v (.one (.bptr 1 0)), .v (.one (.int .i64)), .v (.one (.eptr 2 3 0)), .v (.one (.int .i64))], [.box [.int .i64, .nil], .box [.int .i64, .slo 2], .arr kFile [] true]⟩
def s_l03Crash.sh1n : SK := ⟨[.v (.one (.slv [2] (.int .i64))), .v (.one (.bptr 0 0)), .v (.one (.bptr 1 0)), .v (.one (.int .i64)), .v (.one (.eptr 2 3 0)), .v (.one (.int .i64))], [.box [.int .i64, .nil], .box [.int .i64, .slo 2], .arr kFile [] true]⟩
def s_l03Crash.ko1 : Ex → List CastAt × List Nat
  | .nrm => ([], [1, 4, 5, 6, 7, 8])
  | .ret => ([], [])
  | .ext i => ([], [])
def s_l03Crash.G1 (R : Type) (t : s_l03Crash.sh1.T) (K : Ex → Kp → Option R) : Option R := s_l03Crash.j1 (fun y0 y1 y2 y3 y4 y5 y6 => K .nrm (SK.enc s_l03Crash.sh1n ((y0, (), (), y1, y2, y3, ()), ((y4, (), ()), (y5, (), ()), y6, ())))) t.1.1 t.1.2.2.2.1 t.1.2.2.2.2.1 t.1.2.2.2.2.2.1 t.2.1.1 t.2.2.1.1 t.2.2.2.1
def s_l03Crash.S1 : Sum := ⟨([], [1, 4, 5, 6, 7, 8]), sumF s_l03Crash.sh1 (s_l03Crash.G1), s_l03Crash.ko1⟩
theorem s_l03Crash.ok1 (hE : EOk Tryz.prog (s_l03Crash.E)) : SumOk Tryz.prog s_l03Crash.E (cL (cR (cR (cB (cL (cR (cB (cB (cR (cL (cR (cR (bodyOf Tryz.f123))))))))))))) (s_l03Crash.S1) := by
  have hh : HintOk Tryz.prog s_l03Crash.E (cL (cR (cR (cB (cL (cR (cB (cB (cR (cL (cR (cR (bodyOf Tryz.f123))))))))))))) (.a) := HintOk.n1 (Q := True) (by kernel_rfl) trivial
  exact sumS (kin := ([], [1, 4, 5, 6, 7, 8])) (kout := s_l03Crash.ko1) (sh := s_l03Crash.sh1) (F := s_l03Crash.G1) (ops_ok (hE.gv _)) (by kernel_rfl) hh (fun R t K => by kernel_rfl)
def s_l03Crash.sh2 : SK := ⟨[.v (.one (.slv [2] (.int .i64))), .v (.one (.bptr 0 0)), .v (.one (.bptr 1 0)), .v (.one (.int .i64))], [.box [.int .i64, .nil], .box [.int .i64, .slo 2], .arr kFile [] true]⟩
def s_l03Crash.sh2e0 : SK := ⟨[.v (.one (.bptr 0 0)), .v (.one (.bptr 1 0))], [.box [.int .i64, .nil], .box [.int .i64, .slo 2], .arr kFile [] true]⟩
def s_l03Crash.ko2 : Ex → List CastAt × List Nat
  | .nrm => ([], [])
  | .ret => ([], [])
  | .ext i => cond (Nat.beq i 0) ([], [4, 5]) ([], [])
def s_l03Crash.G2 (n : Nat) (R : Type) (t : s_l03Crash.sh2.T) (K : Ex → Kp → Option R) : Option R := s_l03Crash.l2 (fun y0 y1 y2 => K (.ext 0) (SK.enc s_l03Crash.sh2e0 (((), (), ()), ((y0, (), ()), (y1, (), ()), y2, ())))) n t.1.1 t.1.2.2.2.1 t.2.1.1 t.2.2.1.1 t.2.2.2.1
def s_l03Crash.S2 : Sum := ⟨([], [1, 4, 5, 6]), sumF s_l03Crash.sh2 (s_l03Crash.G2 fuel), s_l03Crash.ko2⟩
theorem s_l03Crash.ok2 (hE : EOk Tryz.prog (s_l03Crash.E)) : SumOk Tryz.prog s_l03Crash.E (cB (cR (cL (cR (cR (bodyOf Tryz.f123)))))) (s_l03Crash.S2) := by
  have hh : HintOk Tryz.prog s_l03Crash.E (cB (cB (cR (cL (cR (cR (bodyOf Tryz.f123))))))) (.n (.a) (.n (.b (.n (.a) (.n (.a) (.n (.s (s_l03Crash.S1)) (.a))))) (.a))) := HintOk.n1 (Q := (True) ∧ (((True) ∧ ((True) ∧ ((SumOk Tryz.prog s_l03Crash.E (cL (cR (cR (cB (cL (cR (cB (cB (cR (cL (cR (cR (bodyOf Tryz.f123))))))))))))) (s_l03Crash.S1)) ∧ (True)))) ∧ (True))) (by kernel_rfl) ⟨trivial, ⟨⟨trivial, ⟨trivial, ⟨(s_l03Crash.ok1 hE), trivial⟩⟩⟩, trivial⟩⟩
  have h := loopS (kin := ([], [1, 4, 5, 6])) (kout := s_l03Crash.ko2) (sh := s_l03Crash.sh2) (F := s_l03Crash.G2) (ops_ok (hE.gv _)) (by kernel_rfl) hh (fun _ _ _ => rfl) (fun n R t K => by kernel_rfl) fuel
  exact HintOk.n1 (c := (cB (cR (cL (cR (cR (bodyOf Tryz.f123))))))) (h := .s (s_l03Crash.S2)) (P := Tryz.prog) (E := s_l03Crash.E) (by kernel_rfl) h
theorem s_l03Crash.hok (hE : EOk Tryz.prog (s_l03Crash.E)) : HintOk Tryz.prog s_l03Crash.E (bodyOf Tryz.f123) (.n (.a) (.n (.a) (.n (.n (.a) (.b (.s (s_l03Crash.S2)))) (.a)))) := HintOk.n1 (Q := (True) ∧ ((True) ∧ (((True) ∧ (SumOk Tryz.prog s_l03Crash.E (cB (cR (cL (cR (cR (bodyOf Tryz.f123)))))) (s_l03Crash.S2))) ∧ (True)))) (by kernel_rfl) ⟨trivial, ⟨trivial, ⟨⟨trivial, (s_l03Crash.ok2 hE)⟩, trivial⟩⟩⟩
theorem s_l03Crash.hE : EOk Tryz.prog (s_l03Crash.E) := EOk.of ttOk (⟨s_l03Own.fok, trivial⟩)
theorem s_l03Crash.fok : FOk Tryz.prog 123 s_l03Crash.fi :=
  fokS (E := s_l03Crash.E) (wy := ⟨[[none, some (kFile, true)]], [[], []], []⟩) (h := (fun gs => .n (.a) (.n (.a) (.n (.n (.a) (.b (.s (s_l03Crash.S2)))) (.a))))) (G := fun t g => s_l03Crash.F (fun y0 y1 => g (y0, y1)) t.1.1 t.1.2.1 t.2.1) (by kernel_rfl) s_l03Crash.hE Tryz.func123 (by kernel_rfl) rfl (Nat.le_refl _) (fun t => HintOk.n1 (by kernel_rfl) (s_l03Crash.hok s_l03Crash.hE)) (fun t g => s_l03Crash_nat g t.1.1 t.1.2.1 t.2.1) (fun t => by kernel_rfl)
/-! loop.example_g00220_spec.l03Without -/
def s_l03Without.F {R : Type} (kk : Int → List (El kFile) → Option R) (d_Room : Int) (d_Files : List (El kFile)) (k_ : Int) : Option R :=
  grd (gSl (0 : Int) k_ (List.length d_Files)) <|
  grd (gRm (((List.length ([] : List (El kFile))) + (List.length (sub d_Files (0 : Int) k_))) * 40)) <|
  grd (gSl (IntKind.wrap .i64 (k_ + (1 : Int))) (List.length d_Files : Int) (List.length d_Files)) <|
  grd (gRm (((List.length (([] : List (El kFile)) ++ (sub d_Files (0 : Int) k_))) + (List.length (sub d_Files (IntKind.wrap .i64 (k_ + (1 : Int))) (List.length d_Files : Int)))) * 40)) <|
  kk d_Room ((([] : List (El kFile)) ++ (sub d_Files (0 : Int) k_)) ++ (sub d_Files (IntKind.wrap .i64 (k_ + (1 : Int))) (List.length d_Files : Int)))
theorem s_l03Without.F_nat {R S : Type} (g : R → Option S) (kk : Int → List (El kFile) → Option R) (d_Room : Int) (d_Files : List (El kFile)) (k_ : Int) : s_l03Without.F (fun y0 y1 => (kk y0 y1).bind g) d_Room d_Files k_ = (s_l03Without.F kk d_Room d_Files k_).bind g := by
  simp only [s_l03Without.F, grd_bind, cnd_bind, bnd_bind, non_bind]
def s_l03Without (d_Room : Int) (d_Files : List (El kFile)) (k_ : Int) : Option (Int × List (El kFile)) := s_l03Without.F (fun y0 y1 => some (y0, y1)) d_Room d_Files k_
theorem s_l03Without_nat {S : Type} (g : (Int × List (El kFile)) → Option S) (d_Room : Int) (d_Files : List (El kFile)) (k_ : Int) : s_l03Without.F (fun y0 y1 => g (y0, y1)) d_Room d_Files k_ = (s_l03Without d_Room d_Files k_).bind g := s_l03Without.F_nat g (fun y0 y1 => some (y0, y1)) d_Room d_Files k_
def s_l03Without.out : (Int × List (El kFile)) → CRes := fun a => ⟨encL SV.enc [.agg [.int .i64, .own [] kFile true]] ((a.1, a.2, ()), ()), [encL SC.enc [] (), encL SC.enc [] ()]⟩
def s_l03Without.ps : List PS := [.val [none, some (kFile, false)], .val [none]]
def s_l03Without.sA : List SA := [.v (.agg [.int .i64, .slv [] kFile]), .v (.one (.int .i64))]
def s_l03Without.fi : FI := FIs s_l03Without.sA (Int × List (El kFile)) (fun t => s_l03Without t.1.1 t.1.2.1 t.2.1) s_l03Without.out s_l03Without.ps
def s_l03Without.E : Env := ⟨tt, lkF [], 20, 0, [], []⟩
theorem s_l03Without.hok (hE : EOk Tryz.prog (s_l03Without.E)) : HintOk Tryz.prog s_l03Without.E (bodyOf Tryz.f126) (.a) := HintOk.n1 (Q := True) (by kernel_rfl) trivial
theorem s_l03Without.hE : EOk Tryz.prog (s_l03Without.E) := EOk.of ttOk (trivial)
theorem s_l03Without.fok : FOk Tryz.prog 126 s_l03Without.fi :=
  fokS (E := s_l03Without.E) (wy := ⟨[[none, some (kFile, true)]], [[], []], []⟩) (h := (fun gs => .a)) (G := fun t g => s_l03Without.F (fun y0 y1 => g (y0, y1)) t.1.1 t.1.2.1 t.2.1) (by kernel_rfl) s_l03Without.hE Tryz.func126 (by kernel_rfl) rfl (Nat.le_refl _) (fun t => HintOk.n1 (by kernel_rfl) (s_l03Without.hok s_l03Without.hE)) (fun t g => s_l03Without_nat g t.1.1 t.1.2.1 t.2.1) (fun t => by kernel_rfl)
/-! loop.example_g00220_spec.l03Step -/
def s_l03Step.j1 {R : Type} (kkn : Int → List (El kFile) → Int → Int → ByteArray → ByteArray → ByteArray → List Int → Int → Option R) (kkr : Int → Int → List (El kFile) → Option R) (d : Int) (d1 : List (El kFile)) (a : Int) (a1 : Int) (a2 : ByteArray) (a3 : ByteArray) (a4 : ByteArray) (a5 : List Int) (i : Int) : Option R :=
  cond (a == (1 : Int)) (
    (s_l03Append d d1 a a1 a2 a3 a4 a5).bind fun r =>
    kkr r.2.2 r.1 r.2.1) (
    cond (a == (5 : Int)) (
      (s_l03Crash d d1 a5).bind fun r1 =>
      kkr (0 : Int) r1.1 r1.2) (
      cond (a == (2 : Int)) (kkn d d1 a a1 a2 a3 a4 a5 i) (
        cond (a == (3 : Int)) (kkn d d1 a a1 a2 a3 a4 a5 i) (
          cond (a == (4 : Int)) (kkn d d1 a a1 a2 a3 a4 a5 i) (cond (a == (6 : Int)) (kkn d d1 a a1 a2 a3 a4 a5 i) (kkr (3 : Int) d d1))))))
theorem s_l03Step.j1_nat {R S : Type} (g : R → Option S) (kkn : Int → List (El kFile) → Int → Int → ByteArray → ByteArray → ByteArray → List Int → Int → Option R) (kkr : Int → Int → List (El kFile) → Option R) (d : Int) (d1 : List (El kFile)) (a : Int) (a1 : Int) (a2 : ByteArray) (a3 : ByteArray) (a4 : ByteArray) (a5 : List Int) (i : Int) : s_l03Step.j1 (fun y0 y1 y2 y3 y4 y5 y6 y7 y8 => (kkn y0 y1 y2 y3 y4 y5 y6 y7 y8).bind g) (fun y0 y1 y2 => (kkr y0 y1 y2).bind g) d d1 a a1 a2 a3 a4 a5 i = (s_l03Step.j1 kkn kkr d d1 a a1 a2 a3 a4 a5 i).bind g := by
  simp only [s_l03Step.j1, grd_bind, cnd_bind, bnd_bind, non_bind]
def s_l03Step.F {R : Type} (kk : Int → List (El kFile) → Int → Option R) (d_Room : Int) (d_Files : List (El kFile)) (a_Kind : Int) (a_N : Int) (a_Name : ByteArray) (a_To : ByteArray) (a_Data : ByteArray) (a_Keep : List Int) : Option R :=
  s_l03Step.j1 (fun d d1 a a1 a2 a3 a4 a5 i =>
    (s_l03Find d d1 a2).bind fun r =>
    cond (decide (r < (0 : Int))) (kk d d1 (5 : Int)) (
      grd (gIx r (List.length d1)) <|
      cond (a == (2 : Int)) (
        (s_l03Put d d1 ((rdE kFile d1 (Int.toNat r)).1) ((rdE kFile d1 (Int.toNat r)).2.1) (ByteArray.size (rdE kFile d1 (Int.toNat r)).2.1 : Int)).bind fun r1 =>
        kk r1.1 r1.2 (0 : Int)) (
        cond (a == (4 : Int)) (
          (s_l03Without d d1 r).bind fun r2 =>
          kk r2.1 r2.2 (0 : Int)) (
          cond (a == (6 : Int)) (
            (s_l01In a1 (0 : Int) (ByteArray.size (rdE kFile d1 (Int.toNat r)).2.1 : Int)).bind fun r3 =>
            cond (!r3) (kk d d1 (4 : Int)) (
              grd (gSl (0 : Int) a1 (ByteArray.size (rdE kFile d1 (Int.toNat r)).2.1)) <|
              (s_l03Put d d1 ((rdE kFile d1 (Int.toNat r)).1) (cut (rdE kFile d1 (Int.toNat r)).2.1 (0 : Int) a1) (mn2 (rdE kFile d1 (Int.toNat r)).2.2 a1)).bind fun r4 =>
              kk r4.1 r4.2 (0 : Int))) (
            (s_NameOK a3).bind fun r5 =>
            cond (!r5) (kk d d1 (1 : Int)) (
              (s_l03Without d d1 r).bind fun r6 =>
              (s_l03Put r6.1 r6.2 a3 ((rdE kFile d1 (Int.toNat r)).2.1) ((rdE kFile d1 (Int.toNat r)).2.2)).bind fun r7 =>
              kk r7.1 r7.2 (0 : Int))))))) (fun i1 i2 l => kk i2 l i1) d_Room d_Files a_Kind a_N a_Name a_To a_Data a_Keep (0 : Int)
theorem s_l03Step.F_nat {R S : Type} (g : R → Option S) (kk : Int → List (El kFile) → Int → Option R) (d_Room : Int) (d_Files : List (El kFile)) (a_Kind : Int) (a_N : Int) (a_Name : ByteArray) (a_To : ByteArray) (a_Data : ByteArray) (a_Keep : List Int) : s_l03Step.F (fun y0 y1 y2 => (kk y0 y1 y2).bind g) d_Room d_Files a_Kind a_N a_Name a_To a_Data a_Keep = (s_l03Step.F kk d_Room d_Files a_Kind a_N a_Name a_To a_Data a_Keep).bind g := by
  simp only [s_l03Step.F, grd_bind, cnd_bind, bnd_bind, non_bind, ← s_l03Step.j1_nat]
def s_l03Step (d_Room : Int) (d_Files : List (El kFile)) (a_Kind : Int) (a_N : Int) (a_Name : ByteArray) (a_To : ByteArray) (a_Data : ByteArray) (a_Keep : List Int) : Option (Int × List (El kFile) × Int) := s_l03Step.F (fun y0 y1 y2 => some (y0, y1, y2)) d_Room d_Files a_Kind a_N a_Name a_To a_Data a_Keep
theorem s_l03Step_nat {S : Type} (g : (Int × List (El kFile) × Int) → Option S) (d_Room : Int) (d_Files : List (El kFile)) (a_Kind : Int) (a_N : Int) (a_Name : ByteArray) (a_To : ByteArray) (a_Data : ByteArray) (a_Keep : List Int) : s_l03Step.F (fun y0 y1 y2 => g (y0, y1, y2)) d_Room d_Files a_Kind a_N a_Name a_To a_Data a_Keep = (s_l03Step d_Room d_Files a_Kind a_N a_Name a_To a_Data a_Keep).bind g := s_l03Step.F_nat g (fun y0 y1 y2 => some (y0, y1, y2)) d_Room d_Files a_Kind a_N a_Name a_To a_Data a_Keep
def s_l03Step.out : (Int × List (El kFile) × Int) → CRes := fun a => ⟨encL SV.enc [.agg [.int .i64, .slv [0, 1] kFile], .one (.int .i64)] ((a.1, a.2.1, ()), a.2.2, ()), [encL SC.enc [] (), encL SC.enc [] ()]⟩
def s_l03Step.ps : List PS := [.val [none, some (kFile, false)], .val [none, none, none, none, none, some ((.int .i64), false)]]
def s_l03Step.sA : List SA := [.v (.agg [.int .i64, .slv [] kFile]), .v (.agg [.int .i64, .int .i64, .str, .str, .str, .slv [] (.int .i64)])]
def s_l03Step.fi : FI := FIs s_l03Step.sA (Int × List (El kFile) × Int) (fun t => s_l03Step t.1.1 t.1.2.1 t.2.1.1 t.2.1.2.1 t.2.1.2.2.1 t.2.1.2.2.2.1 t.2.1.2.2.2.2.1 t.2.1.2.2.2.2.2.1) s_l03Step.out s_l03Step.ps
def s_l03Step.E : Env := ⟨tt, lkF [(59, s_l01In.fi), (120, s_NameOK.fi), (122, s_l03Append.fi), (123, s_l03Crash.fi), (124, s_l03Find.fi), (125, s_l03Put.fi), (126, s_l03Without.fi)], 95, 0, [], []⟩
def s_l03Step.sh1 : SK := ⟨[.v (.one (.bptr 0 0)), .v (.one (.bptr 1 0)), .v (.one (.bptr 2 0))], [.box [.int .i64, .slv [1] kFile], .box [.int .i64, .int .i64, .str, .str, .str, .slv [2] (.int .i64)], .box [.int .i64, .nil]]⟩
def s_l03Step.sh1n : SK := ⟨[.v (.one (.bptr 0 0)), .v (.one (.bptr 1 0)), .v (.one (.bptr 2 0))], [.box [.int .i64, .slv [1] kFile], .box [.int .i64, .int .i64, .str, .str, .str, .slv [2] (.int .i64)], .box [.int .i64, .nil]]⟩
def s_l03Step.sh1r : SK := ⟨[.v (.one (.bptr 0 0)), .v (.one (.int .i64))], [.box [.int .i64, .slv [0, 1] kFile]]⟩
def s_l03Step.ko1 : Ex → List CastAt × List Nat
  | .nrm => ([], [2, 3, 4])
  | .ret => ([⟨4, true, 1, .slv [0, 1] kFile⟩], [4, 5])
  | .ext i => ([], [])
def s_l03Step.G1 (R : Type) (t : s_l03Step.sh1.T) (K : Ex → Kp → Option R) : Option R := s_l03Step.j1 (fun y0 y1 y2 y3 y4 y5 y6 y7 y8 => K .nrm (SK.enc s_l03Step.sh1n (((), (), (), ()), ((y0, y1, ()), (y2, y3, y4, y5, y6, y7, ()), (y8, (), ()), ())))) (fun y0 y1 y2 => K .ret (SK.enc s_l03Step.sh1r (((), y0, ()), ((y1, y2, ()), ())))) t.2.1.1 t.2.1.2.1 t.2.2.1.1 t.2.2.1.2.1 t.2.2.1.2.2.1 t.2.2.1.2.2.2.1 t.2.2.1.2.2.2.2.1 t.2.2.1.2.2.2.2.2.1 t.2.2.2.1.1
def s_l03Step.S1 : Sum := ⟨([], [2, 3, 4]), sumF s_l03Step.sh1 (s_l03Step.G1), s_l03Step.ko1⟩
theorem s_l03Step.ok1 (hE : EOk Tryz.prog (s_l03Step.E)) : SumOk Tryz.prog s_l03Step.E (cL (cR (bodyOf Tryz.f74))) (s_l03Step.S1) := by
  have hh : HintOk Tryz.prog s_l03Step.E (cL (cR (bodyOf Tryz.f74))) (.a) := HintOk.n1 (Q := True) (by kernel_rfl) trivial
  exact sumS (kin := ([], [2, 3, 4])) (kout := s_l03Step.ko1) (sh := s_l03Step.sh1) (F := s_l03Step.G1) (ops_ok (hE.gv _)) (by kernel_rfl) hh (fun R t K => by kernel_rfl)
theorem s_l03Step.hok (hE : EOk Tryz.prog (s_l03Step.E)) : HintOk Tryz.prog s_l03Step.E (bodyOf Tryz.f74) (.n (.a) (.n (.s (s_l03Step.S1)) (.a))) := HintOk.n1 (Q := (True) ∧ ((SumOk Tryz.prog s_l03Step.E (cL (cR (bodyOf Tryz.f74))) (s_l03Step.S1)) ∧ (True))) (by kernel_rfl) ⟨trivial, ⟨(s_l03Step.ok1 hE), trivial⟩⟩
theorem s_l03Step.hE : EOk Tryz.prog (s_l03Step.E) := EOk.of ttOk (⟨s_l01In.fok, ⟨s_NameOK.fok, ⟨s_l03Append.fok, ⟨s_l03Crash.fok, ⟨s_l03Find.fok, ⟨s_l03Put.fok, ⟨s_l03Without.fok, trivial⟩⟩⟩⟩⟩⟩⟩)
theorem s_l03Step.fok : FOk Tryz.prog 74 s_l03Step.fi :=
  fokS (E := s_l03Step.E) (wy := ⟨[[none, some (kFile, false)], [none]], [[], []], [⟨4, true, 1, .slv [0, 1] kFile⟩]⟩) (h := (fun gs => .n (.a) (.n (.s (s_l03Step.S1)) (.a)))) (G := fun t g => s_l03Step.F (fun y0 y1 y2 => g (y0, y1, y2)) t.1.1 t.1.2.1 t.2.1.1 t.2.1.2.1 t.2.1.2.2.1 t.2.1.2.2.2.1 t.2.1.2.2.2.2.1 t.2.1.2.2.2.2.2.1) (by kernel_rfl) s_l03Step.hE Tryz.func74 (by kernel_rfl) rfl (Nat.le_refl _) (fun t => HintOk.n1 (by kernel_rfl) (s_l03Step.hok s_l03Step.hE)) (fun t g => s_l03Step_nat g t.1.1 t.1.2.1 t.2.1.1 t.2.1.2.1 t.2.1.2.2.1 t.2.1.2.2.2.1 t.2.1.2.2.2.2.1 t.2.1.2.2.2.2.2.1) (fun t => by kernel_rfl)
/-! loop.example_g00220_spec.l04Do -/
def s_l04Do.l1 {R : Type} (kke0 : Int → Int → List (El kFile) → Option R) (kkr : Int → Int → List (El kFile) → Option R) : Nat → List (El kFileAct) → Int → Int → List (El kFile) → Int → Int → List (El kFile) → Option R
  | 0, _, _, _, _, _, _, _ => none
  | n + 1, acts, i, d, d1, i1, x, x1 =>
    cond (decide (i < (List.length acts : Int))) (
      grd (gIx i (List.length acts)) <|
      (s_l03Step x x1 ((rdE kFileAct acts (Int.toNat i)).1) ((rdE kFileAct acts (Int.toNat i)).2.1) ((rdE kFileAct acts (Int.toNat i)).2.2.1) ((rdE kFileAct acts (Int.toNat i)).2.2.2.1) ((rdE kFileAct acts (Int.toNat i)).2.2.2.2.1) ((rdE kFileAct acts (Int.toNat i)).2.2.2.2.2)).bind fun r =>
      cond (r.2.2 != (0 : Int)) (kkr r.2.2 d d1) (s_l04Do.l1 kke0 kkr n acts (IntKind.wrap .i64 (i + (1 : Int))) d d1 i1 r.1 r.2.1)) (kke0 i1 x x1)
theorem s_l04Do.l1_nat {R S : Type} (g : R → Option S) (kke0 : Int → Int → List (El kFile) → Option R) (kkr : Int → Int → List (El kFile) → Option R) : ∀ (n : Nat) (acts : List (El kFileAct)) (i : Int) (d : Int) (d1 : List (El kFile)) (i1 : Int) (x : Int) (x1 : List (El kFile)), s_l04Do.l1 (fun y0 y1 y2 => (kke0 y0 y1 y2).bind g) (fun y0 y1 y2 => (kkr y0 y1 y2).bind g) n acts i d d1 i1 x x1 = (s_l04Do.l1 kke0 kkr n acts i d d1 i1 x x1).bind g := by
  intro n
  induction n with
  | zero => intros; rfl
  | succ n ih => intros; simp only [s_l04Do.l1, grd_bind, cnd_bind, bnd_bind, non_bind, ih]
def s_l04Do.F {R : Type} (kk : Int → List (El kFile) → Int → Option R) (d_Room : Int) (d_Files : List (El kFile)) (acts : List (El kFileAct)) : Option R :=
  s_l04Do.l1 (fun i x x1 => kk x x1 (0 : Int)) (fun i1 i2 l => kk i2 l i1) fuel acts (0 : Int) d_Room d_Files (0 : Int) d_Room d_Files
theorem s_l04Do.F_nat {R S : Type} (g : R → Option S) (kk : Int → List (El kFile) → Int → Option R) (d_Room : Int) (d_Files : List (El kFile)) (acts : List (El kFileAct)) : s_l04Do.F (fun y0 y1 y2 => (kk y0 y1 y2).bind g) d_Room d_Files acts = (s_l04Do.F kk d_Room d_Files acts).bind g := by
  simp only [s_l04Do.F, grd_bind, cnd_bind, bnd_bind, non_bind, ← s_l04Do.l1_nat]
def s_l04Do (d_Room : Int) (d_Files : List (El kFile)) (acts : List (El kFileAct)) : Option (Int × List (El kFile) × Int) := s_l04Do.F (fun y0 y1 y2 => some (y0, y1, y2)) d_Room d_Files acts
theorem s_l04Do_nat {S : Type} (g : (Int × List (El kFile) × Int) → Option S) (d_Room : Int) (d_Files : List (El kFile)) (acts : List (El kFileAct)) : s_l04Do.F (fun y0 y1 y2 => g (y0, y1, y2)) d_Room d_Files acts = (s_l04Do d_Room d_Files acts).bind g := s_l04Do.F_nat g (fun y0 y1 y2 => some (y0, y1, y2)) d_Room d_Files acts
def s_l04Do.out : (Int × List (El kFile) × Int) → CRes := fun a => ⟨encL SV.enc [.agg [.int .i64, .slv [0, 1] kFile], .one (.int .i64)] ((a.1, a.2.1, ()), a.2.2, ()), [encL SC.enc [] (), encL SC.enc [] ()]⟩
def s_l04Do.ps : List PS := [.val [none, some (kFile, false)], .val [some (kFileAct, false)]]
def s_l04Do.sA : List SA := [.v (.agg [.int .i64, .slv [] kFile]), .v (.one (.slv [] kFileAct))]
def s_l04Do.fi : FI := FIs s_l04Do.sA (Int × List (El kFile) × Int) (fun t => s_l04Do t.1.1 t.1.2.1 t.2.1) s_l04Do.out s_l04Do.ps
def s_l04Do.E : Env := ⟨tt, lkF [(74, s_l03Step.fi)], 32, 0, [], []⟩
def s_l04Do.sh1 : SK := ⟨[.v (.one (.slv [2] kFileAct)), .v (.one (.bptr 0 0)), .v (.one (.bptr 1 0)), .v (.one (.bptr 2 0)), .v (.one (.int .i64))], [.box [.int .i64, .slv [1] kFile], .box [.int .i64, .nil], .box [.int .i64, .slv [0, 1] kFile]]⟩
def s_l04Do.sh1e0 : SK := ⟨[.v (.one (.bptr 0 0)), .v (.one (.bptr 1 0))], [.box [.int .i64, .nil], .box [.int .i64, .slv [0, 1] kFile]]⟩
def s_l04Do.sh1r : SK := ⟨[.v (.one (.bptr 0 0)), .v (.one (.int .i64))], [.box [.int .i64, .slv [1] kFile]]⟩
def s_l04Do.ko1 : Ex → List CastAt × List Nat
  | .nrm => ([], [])
  | .ret => ([], [4, 5])
  | .ext i => cond (Nat.beq i 0) ([], [4, 6]) ([], [])
def s_l04Do.G1 (n : Nat) (R : Type) (t : s_l04Do.sh1.T) (K : Ex → Kp → Option R) : Option R := s_l04Do.l1 (fun y0 y1 y2 => K (.ext 0) (SK.enc s_l04Do.sh1e0 (((), (), ()), ((y0, (), ()), (y1, y2, ()), ())))) (fun y0 y1 y2 => K .ret (SK.enc s_l04Do.sh1r (((), y0, ()), ((y1, y2, ()), ())))) n t.1.1 t.1.2.2.2.2.1 t.2.1.1 t.2.1.2.1 t.2.2.1.1 t.2.2.2.1.1 t.2.2.2.1.2.1
def s_l04Do.S1 : Sum := ⟨([⟨6, true, 1, .slv [0, 1] kFile⟩], [1, 2, 4, 6, 7]), sumF s_l04Do.sh1 (s_l04Do.G1 fuel), s_l04Do.ko1⟩
theorem s_l04Do.ok1 (hE : EOk Tryz.prog (s_l04Do.E)) : SumOk Tryz.prog s_l04Do.E (cB (cR (cL (cR (cR (bodyOf Tryz.f61)))))) (s_l04Do.S1) := by
  have hh : HintOk Tryz.prog s_l04Do.E (cB (cB (cR (cL (cR (cR (bodyOf Tryz.f61))))))) (.a) := HintOk.n1 (Q := True) (by kernel_rfl) trivial
  have h := loopS (kin := ([⟨6, true, 1, .slv [0, 1] kFile⟩], [1, 2, 4, 6, 7])) (kout := s_l04Do.ko1) (sh := s_l04Do.sh1) (F := s_l04Do.G1) (ops_ok (hE.gv _)) (by kernel_rfl) hh (fun _ _ _ => rfl) (fun n R t K => by kernel_rfl) fuel
  exact HintOk.n1 (c := (cB (cR (cL (cR (cR (bodyOf Tryz.f61))))))) (h := .s (s_l04Do.S1)) (P := Tryz.prog) (E := s_l04Do.E) (by kernel_rfl) h
theorem s_l04Do.hok (hE : EOk Tryz.prog (s_l04Do.E)) : HintOk Tryz.prog s_l04Do.E (bodyOf Tryz.f61) (.n (.a) (.n (.a) (.n (.n (.a) (.b (.s (s_l04Do.S1)))) (.a)))) := HintOk.n1 (Q := (True) ∧ ((True) ∧ (((True) ∧ (SumOk Tryz.prog s_l04Do.E (cB (cR (cL (cR (cR (bodyOf Tryz.f61)))))) (s_l04Do.S1))) ∧ (True)))) (by kernel_rfl) ⟨trivial, ⟨trivial, ⟨⟨trivial, (s_l04Do.ok1 hE)⟩, trivial⟩⟩⟩
theorem s_l04Do.hE : EOk Tryz.prog (s_l04Do.E) := EOk.of ttOk (⟨s_l03Step.fok, trivial⟩)
theorem s_l04Do.fok : FOk Tryz.prog 61 s_l04Do.fi :=
  fokS (E := s_l04Do.E) (wy := ⟨[[none, some (kFile, false)], [none]], [[], []], [⟨4, true, 1, .slv [0, 1] kFile⟩]⟩) (h := (fun gs => .n (.a) (.n (.a) (.n (.n (.a) (.b (.s (s_l04Do.S1)))) (.a))))) (G := fun t g => s_l04Do.F (fun y0 y1 y2 => g (y0, y1, y2)) t.1.1 t.1.2.1 t.2.1) (by kernel_rfl) s_l04Do.hE Tryz.func61 (by kernel_rfl) rfl (Nat.le_refl _) (fun t => HintOk.n1 (by kernel_rfl) (s_l04Do.hok s_l04Do.hE)) (fun t g => s_l04Do_nat g t.1.1 t.1.2.1 t.2.1) (fun t => by kernel_rfl)
/-! loop.example_g00220_spec.l04Head -/
def s_l04Head.F {R : Type} (kk : ByteArray → Option R) (n_ : Int) : Option R :=
  (s_l02Four n_).bind fun r =>
  (s_l02Frame r).bind fun r1 =>
  kk (strL r1)
theorem s_l04Head.F_nat {R S : Type} (g : R → Option S) (kk : ByteArray → Option R) (n_ : Int) : s_l04Head.F (fun y0 => (kk y0).bind g) n_ = (s_l04Head.F kk n_).bind g := by
  simp only [s_l04Head.F, grd_bind, cnd_bind, bnd_bind, non_bind]
def s_l04Head (n_ : Int) : Option ByteArray := s_l04Head.F (fun y0 => some y0) n_
theorem s_l04Head_nat {S : Type} (g : ByteArray → Option S) (n_ : Int) : s_l04Head.F (fun y0 => g y0) n_ = (s_l04Head n_).bind g := s_l04Head.F_nat g (fun y0 => some y0) n_
def s_l04Head.out : ByteArray → CRes := fun a => ⟨encL SV.enc [.one (.str)] (a, ()), [encL SC.enc [] ()]⟩
def s_l04Head.ps : List PS := [.val [none]]
def s_l04Head.sA : List SA := [.v (.one (.int .i64))]
def s_l04Head.fi : FI := FIs s_l04Head.sA (ByteArray) (fun t => s_l04Head t.1) s_l04Head.out s_l04Head.ps
def s_l04Head.E : Env := ⟨tt, lkF [(110, s_l02Frame.fi), (133, s_l02Four.fi)], 7, 0, [], []⟩
theorem s_l04Head.hok (hE : EOk Tryz.prog (s_l04Head.E)) : HintOk Tryz.prog s_l04Head.E (bodyOf Tryz.f111) (.a) := HintOk.n1 (Q := True) (by kernel_rfl) trivial
theorem s_l04Head.hE : EOk Tryz.prog (s_l04Head.E) := EOk.of ttOk (⟨s_l02Frame.fok, ⟨s_l02Four.fok, trivial⟩⟩)
theorem s_l04Head.fok : FOk Tryz.prog 111 s_l04Head.fi :=
  fokS (E := s_l04Head.E) (wy := ⟨[[none]], [[]], []⟩) (h := (fun gs => .a)) (G := fun t g => s_l04Head.F (fun y0 => g y0) t.1) (by kernel_rfl) s_l04Head.hE Tryz.func111 (by kernel_rfl) rfl (Nat.le_refl _) (fun t => HintOk.n1 (by kernel_rfl) (s_l04Head.hok s_l04Head.hE)) (fun t g => s_l04Head_nat g t.1) (fun t => by kernel_rfl)
/-! loop.example_g00220_spec.l04Plan -/
def s_l04Plan.j1 {R : Type} (kkn : ByteArray → Int → ByteArray → Int → List ByteArray → List ByteArray → Int → Option R) (frame : ByteArray) (n_ : Int) (text : ByteArray) (w : Int) (w1 : List ByteArray) (w2 : List ByteArray) (w3 : Int) : Option R :=
  cond ((ByteArray.size text : Int) == (0 : Int)) (
    (s_l04Head (IntKind.wrap .i64 (w + (List.length w1 : Int)))).bind fun r =>
    grd (gCat r frame) <|
    kkn (r ++ frame) n_ text w w1 w2 w3) (kkn frame n_ text w w1 w2 w3)
theorem s_l04Plan.j1_nat {R S : Type} (g : R → Option S) (kkn : ByteArray → Int → ByteArray → Int → List ByteArray → List ByteArray → Int → Option R) (frame : ByteArray) (n_ : Int) (text : ByteArray) (w : Int) (w1 : List ByteArray) (w2 : List ByteArray) (w3 : Int) : s_l04Plan.j1 (fun y0 y1 y2 y3 y4 y5 y6 => (kkn y0 y1 y2 y3 y4 y5 y6).bind g) frame n_ text w w1 w2 w3 = (s_l04Plan.j1 kkn frame n_ text w w1 w2 w3).bind g := by
  simp only [s_l04Plan.j1, grd_bind, cnd_bind, bnd_bind, non_bind]
def s_l04Plan.F {R : Type} (kk : List (El kFileAct) → Option R) (d_Room : Int) (d_Files : List (El kFile)) (w_First : Int) (w_Records : List ByteArray) (w_Names : List ByteArray) (w_Torn : Int) (data : ByteArray) : Option R :=
  (s_l02Frame (bytesL data)).bind fun r =>
  (s_l04Segments d_Room d_Files).bind fun r1 =>
  cond ((List.length r1 : Int) == (0 : Int)) (
    (s_l04Name (1 : Int)).bind fun r2 =>
    (s_l04Head w_First).bind fun r3 =>
    grd (gCat r3 (strL r)) <|
    kk ([((1 : Int), ((0 : Int), (r2, (ByteArray.empty, (r3 ++ (strL r), [])))))])) (
    grd (gIx (IntKind.wrap .i64 ((List.length r1 : Int) - (1 : Int))) (List.length r1)) <|
    (s_l04Data d_Room d_Files (rdE (.int .i64 : Kd) r1 (Int.toNat (IntKind.wrap .i64 ((List.length r1 : Int) - (1 : Int)))))).bind fun r4 =>
    s_l04Plan.j1 (fun frame n_ text w w1 w2 w3 =>
      cond (decide ((IntKind.wrap .i64 ((ByteArray.size text : Int) + (ByteArray.size frame : Int))) ≤ (160 : Int))) (
        (s_l04Name n_).bind fun r5 =>
        kk ([((1 : Int), ((0 : Int), (r5, (ByteArray.empty, (frame, [])))))])) (
        (s_l04Name n_).bind fun r6 =>
        (s_l04Name (IntKind.wrap .i64 (n_ + (1 : Int)))).bind fun r7 =>
        (s_l04Head (IntKind.wrap .i64 (w + (List.length w1 : Int)))).bind fun r8 =>
        grd (gCat r8 frame) <|
        kk ([((2 : Int), ((0 : Int), (r6, (ByteArray.empty, (ByteArray.empty, []))))), ((1 : Int), ((0 : Int), (r7, (ByteArray.empty, (r8 ++ frame, [])))))]))) (strL r) (rdE (.int .i64 : Kd) r1 (Int.toNat (IntKind.wrap .i64 ((List.length r1 : Int) - (1 : Int))))) r4 w_First w_Records w_Names w_Torn)
theorem s_l04Plan.F_nat {R S : Type} (g : R → Option S) (kk : List (El kFileAct) → Option R) (d_Room : Int) (d_Files : List (El kFile)) (w_First : Int) (w_Records : List ByteArray) (w_Names : List ByteArray) (w_Torn : Int) (data : ByteArray) : s_l04Plan.F (fun y0 => (kk y0).bind g) d_Room d_Files w_First w_Records w_Names w_Torn data = (s_l04Plan.F kk d_Room d_Files w_First w_Records w_Names w_Torn data).bind g := by
  simp only [s_l04Plan.F, grd_bind, cnd_bind, bnd_bind, non_bind, ← s_l04Plan.j1_nat]
def s_l04Plan (d_Room : Int) (d_Files : List (El kFile)) (w_First : Int) (w_Records : List ByteArray) (w_Names : List ByteArray) (w_Torn : Int) (data : ByteArray) : Option (List (El kFileAct)) := s_l04Plan.F (fun y0 => some y0) d_Room d_Files w_First w_Records w_Names w_Torn data
theorem s_l04Plan_nat {S : Type} (g : (List (El kFileAct)) → Option S) (d_Room : Int) (d_Files : List (El kFile)) (w_First : Int) (w_Records : List ByteArray) (w_Names : List ByteArray) (w_Torn : Int) (data : ByteArray) : s_l04Plan.F (fun y0 => g y0) d_Room d_Files w_First w_Records w_Names w_Torn data = (s_l04Plan d_Room d_Files w_First w_Records w_Names w_Torn data).bind g := s_l04Plan.F_nat g (fun y0 => some y0) d_Room d_Files w_First w_Records w_Names w_Torn data
def s_l04Plan.out : (List (El kFileAct)) → CRes := fun a => ⟨encL SV.enc [.one (.own [] kFileAct true)] (a, ()), [encL SC.enc [] (), encL SC.enc [] (), encL SC.enc [] ()]⟩
def s_l04Plan.ps : List PS := [.val [none, some (kFile, false)], .val [none, some (.str, false), some (.str, false), none], .val [none]]
def s_l04Plan.sA : List SA := [.v (.agg [.int .i64, .slv [] kFile]), .v (.agg [.int .i64, .slv [] .str, .slv [] .str, .int .i64]), .v (.one (.str))]
def s_l04Plan.fi : FI := FIs s_l04Plan.sA (List (El kFileAct)) (fun t => s_l04Plan t.1.1 t.1.2.1 t.2.1.1 t.2.1.2.1 t.2.1.2.2.1 t.2.1.2.2.2.1 t.2.2.1) s_l04Plan.out s_l04Plan.ps
def s_l04Plan.E : Env := ⟨tt, lkF [(95, s_l04Segments.fi), (96, s_l04Data.fi), (99, s_l04Name.fi), (110, s_l02Frame.fi), (111, s_l04Head.fi)], 77, 0, [], []⟩
def s_l04Plan.sh1 : SK := ⟨[.v (.one (.bptr 0 0)), .v (.one (.str)), .v (.one (.int .i64)), .v (.one (.str))], [.box [.int .i64, .slv [2] .str, .slv [2] .str, .int .i64]]⟩
def s_l04Plan.sh1n : SK := ⟨[.v (.one (.bptr 0 0)), .v (.one (.str)), .v (.one (.int .i64)), .v (.one (.str))], [.box [.int .i64, .slv [2] .str, .slv [2] .str, .int .i64]]⟩
def s_l04Plan.ko1 : Ex → List CastAt × List Nat
  | .nrm => ([], [4, 7, 9, 10])
  | .ret => ([], [])
  | .ext i => ([], [])
def s_l04Plan.G1 (R : Type) (t : s_l04Plan.sh1.T) (K : Ex → Kp → Option R) : Option R := s_l04Plan.j1 (fun y0 y1 y2 y3 y4 y5 y6 => K .nrm (SK.enc s_l04Plan.sh1n (((), y0, y1, y2, ()), ((y3, y4, y5, y6, ()), ())))) t.1.2.1 t.1.2.2.1 t.1.2.2.2.1 t.2.1.1 t.2.1.2.1 t.2.1.2.2.1 t.2.1.2.2.2.1
def s_l04Plan.S1 : Sum := ⟨([], [4, 7, 9, 10]), sumF s_l04Plan.sh1 (s_l04Plan.G1), s_l04Plan.ko1⟩
theorem s_l04Plan.ok1 (hE : EOk Tryz.prog (s_l04Plan.E)) : SumOk Tryz.prog s_l04Plan.E (cL (cR (cR (cR (cR (cR (cR (bodyOf Tryz.f62)))))))) (s_l04Plan.S1) := by
  have hh : HintOk Tryz.prog s_l04Plan.E (cL (cR (cR (cR (cR (cR (cR (bodyOf Tryz.f62)))))))) (.a) := HintOk.n1 (Q := True) (by kernel_rfl) trivial
  exact sumS (kin := ([], [4, 7, 9, 10])) (kout := s_l04Plan.ko1) (sh := s_l04Plan.sh1) (F := s_l04Plan.G1) (ops_ok (hE.gv _)) (by kernel_rfl) hh (fun R t K => by kernel_rfl)
theorem s_l04Plan.hok (hE : EOk Tryz.prog (s_l04Plan.E)) : HintOk Tryz.prog s_l04Plan.E (bodyOf Tryz.f62) (.n (.a) (.n (.a) (.n (.a) (.n (.a) (.n (.a) (.n (.a) (.n (.s (s_l04Plan.S1)) (.a)))))))) := HintOk.n1 (Q := (True) ∧ ((True) ∧ ((True) ∧ ((True) ∧ ((True) ∧ ((True) ∧ ((SumOk Tryz.prog s_l04Plan.E (cL (cR (cR (cR (cR (cR (cR (bodyOf Tryz.f62)))))))) (s_l04Plan.S1)) ∧ (True)))))))) (by kernel_rfl) ⟨trivial, ⟨trivial, ⟨trivial, ⟨trivial, ⟨trivial, ⟨trivial, ⟨(s_l04Plan.ok1 hE), trivial⟩⟩⟩⟩⟩⟩⟩
theorem s_l04Plan.hE : EOk Tryz.prog (s_l04Plan.E) := EOk.of ttOk (⟨s_l04Segments.fok, ⟨s_l04Data.fok, ⟨s_l04Name.fok, ⟨s_l02Frame.fok, ⟨s_l04Head.fok, trivial⟩⟩⟩⟩⟩)
theorem s_l04Plan.fok : FOk Tryz.prog 62 s_l04Plan.fi :=
  fokS (E := s_l04Plan.E) (wy := ⟨[[some (kFileAct, true)]], [[], [], []], []⟩) (h := (fun gs => .n (.a) (.n (.a) (.n (.a) (.n (.a) (.n (.a) (.n (.a) (.n (.s (s_l04Plan.S1)) (.a))))))))) (G := fun t g => s_l04Plan.F (fun y0 => g y0) t.1.1 t.1.2.1 t.2.1.1 t.2.1.2.1 t.2.1.2.2.1 t.2.1.2.2.2.1 t.2.2.1) (by kernel_rfl) s_l04Plan.hE Tryz.func62 (by kernel_rfl) rfl (Nat.le_refl _) (fun t => HintOk.n1 (by kernel_rfl) (s_l04Plan.hok s_l04Plan.hE)) (fun t g => s_l04Plan_nat g t.1.1 t.1.2.1 t.2.1.1 t.2.1.2.1 t.2.1.2.2.1 t.2.1.2.2.2.1 t.2.2.1) (fun t => by kernel_rfl)
/-! loop.example_g00220_spec.WalAppend -/
def s_WalAppend.F {R : Type} (kk : Int → List (El kFile) → Int → Option R) (d_Room : Int) (d_Files : List (El kFile)) (data : ByteArray) : Option R :=
  cond (decide ((ByteArray.size data : Int) > (65536 : Int))) (kk (0 : Int) [] (2 : Int)) (
    (s_l04Check d_Room d_Files data).bind fun r =>
    cond (r.2.2.2.2 != (0 : Int)) (kk (0 : Int) [] r.2.2.2.2) (
      (s_l04Plan d_Room d_Files r.1 r.2.1 r.2.2.1 r.2.2.2.1 data).bind fun r1 =>
      (s_l04Do d_Room d_Files r1).bind fun r2 =>
      cond (r2.2.2 != (0 : Int)) (kk (0 : Int) [] r2.2.2) (
        (s_l03Own r2.1 r2.2.1).bind fun r3 =>
        kk r3.1 r3.2 (0 : Int))))
theorem s_WalAppend.F_nat {R S : Type} (g : R → Option S) (kk : Int → List (El kFile) → Int → Option R) (d_Room : Int) (d_Files : List (El kFile)) (data : ByteArray) : s_WalAppend.F (fun y0 y1 y2 => (kk y0 y1 y2).bind g) d_Room d_Files data = (s_WalAppend.F kk d_Room d_Files data).bind g := by
  simp only [s_WalAppend.F, grd_bind, cnd_bind, bnd_bind, non_bind]
def s_WalAppend (d_Room : Int) (d_Files : List (El kFile)) (data : ByteArray) : Option (Int × List (El kFile) × Int) := s_WalAppend.F (fun y0 y1 y2 => some (y0, y1, y2)) d_Room d_Files data
theorem s_WalAppend_nat {S : Type} (g : (Int × List (El kFile) × Int) → Option S) (d_Room : Int) (d_Files : List (El kFile)) (data : ByteArray) : s_WalAppend.F (fun y0 y1 y2 => g (y0, y1, y2)) d_Room d_Files data = (s_WalAppend d_Room d_Files data).bind g := s_WalAppend.F_nat g (fun y0 y1 y2 => some (y0, y1, y2)) d_Room d_Files data
def s_WalAppend.out : (Int × List (El kFile) × Int) → CRes := fun a => ⟨encL SV.enc [.agg [.int .i64, .own [] kFile true], .one (.int .i64)] ((a.1, a.2.1, ()), a.2.2, ()), [encL SC.enc [] (), encL SC.enc [] ()]⟩
def s_WalAppend.ps : List PS := [.val [none, some (kFile, false)], .val [none]]
def s_WalAppend.sA : List SA := [.v (.agg [.int .i64, .slv [] kFile]), .v (.one (.str))]
def s_WalAppend.fi : FI := FIs s_WalAppend.sA (Int × List (El kFile) × Int) (fun t => s_WalAppend t.1.1 t.1.2.1 t.2.1) s_WalAppend.out s_WalAppend.ps
def s_WalAppend.E : Env := ⟨tt, lkF [(50, s_l03Own.fi), (60, s_l04Check.fi), (61, s_l04Do.fi), (62, s_l04Plan.fi)], 38, 0, [], []⟩
theorem s_WalAppend.hok (hE : EOk Tryz.prog (s_WalAppend.E)) : HintOk Tryz.prog s_WalAppend.E (bodyOf Tryz.f19) (.a) := HintOk.n1 (Q := True) (by kernel_rfl) trivial
theorem s_WalAppend.hE : EOk Tryz.prog (s_WalAppend.E) := EOk.of ttOk (⟨s_l03Own.fok, ⟨s_l04Check.fok, ⟨s_l04Do.fok, ⟨s_l04Plan.fok, trivial⟩⟩⟩⟩)
theorem s_WalAppend.fok : FOk Tryz.prog 19 s_WalAppend.fi :=
  fokS (E := s_WalAppend.E) (wy := ⟨[[none, some (kFile, true)], [none]], [[], []], []⟩) (h := (fun gs => .a)) (G := fun t g => s_WalAppend.F (fun y0 y1 y2 => g (y0, y1, y2)) t.1.1 t.1.2.1 t.2.1) (by kernel_rfl) s_WalAppend.hE Tryz.func19 (by kernel_rfl) rfl (Nat.le_refl _) (fun t => HintOk.n1 (by kernel_rfl) (s_WalAppend.hok s_WalAppend.hE)) (fun t g => s_WalAppend_nat g t.1.1 t.1.2.1 t.2.1) (fun t => by kernel_rfl)
/-! loop.example_g00220_impl.within -/
def i_within.F {R : Type} (kk : Bool → Option R) (n_ : Int) (low : Int) (high : Int) : Option R :=
  cond (decide (n_ ≥ low)) (kk (decide (n_ ≤ high))) (kk false)
theorem i_within.F_nat {R S : Type} (g : R → Option S) (kk : Bool → Option R) (n_ : Int) (low : Int) (high : Int) : i_within.F (fun y0 => (kk y0).bind g) n_ low high = (i_within.F kk n_ low high).bind g := by
  simp only [i_within.F, grd_bind, cnd_bind, bnd_bind, non_bind]
def i_within (n_ : Int) (low : Int) (high : Int) : Option Bool := i_within.F (fun y0 => some y0) n_ low high
theorem i_within_nat {S : Type} (g : Bool → Option S) (n_ : Int) (low : Int) (high : Int) : i_within.F (fun y0 => g y0) n_ low high = (i_within n_ low high).bind g := i_within.F_nat g (fun y0 => some y0) n_ low high
def i_within.out : Bool → CRes := fun a => ⟨encL SV.enc [.one (.bool)] (a, ()), [encL SC.enc [] (), encL SC.enc [] (), encL SC.enc [] ()]⟩
def i_within.ps : List PS := [.val [none], .val [none], .val [none]]
def i_within.sA : List SA := [.v (.one (.int .i64)), .v (.one (.int .i64)), .v (.one (.int .i64))]
def i_within.fi : FI := FIs i_within.sA (Bool) (fun t => i_within t.1 t.2.1 t.2.2.1) i_within.out i_within.ps
def i_within.E : Env := ⟨tt, lkF [], 15, 0, [], []⟩
theorem i_within.hok (hE : EOk Tryz.prog (i_within.E)) : HintOk Tryz.prog i_within.E (bodyOf Tryz.f67) (.a) := HintOk.n1 (Q := True) (by kernel_rfl) trivial
theorem i_within.hE : EOk Tryz.prog (i_within.E) := EOk.of ttOk (trivial)
theorem i_within.fok : FOk Tryz.prog 67 i_within.fi :=
  fokS (E := i_within.E) (wy := ⟨[[none]], [[], [], []], []⟩) (h := (fun gs => .a)) (G := fun t g => i_within.F (fun y0 => g y0) t.1 t.2.1 t.2.2.1) (by kernel_rfl) i_within.hE Tryz.func67 (by kernel_rfl) rfl (Nat.le_refl _) (fun t => HintOk.n1 (by kernel_rfl) (i_within.hok i_within.hE)) (fun t g => i_within_nat g t.1 t.2.1 t.2.2.1) (fun t => by kernel_rfl)
/-! _loop.example_g00220_impl.Disk_.used -/
def i_Disk_used.l1 {R : Type} (kke0 : Int → Option R) : Nat → Int → List (El kFile) → Int → Int → Option R
  | 0, _, _, _, _ => none
  | n + 1, sum, l, i, i1 =>
    cond (decide (i1 < i)) (
      grd (gIx i1 (List.length l)) <|
      i_Disk_used.l1 kke0 n (IntKind.wrap .i64 (sum + (ByteArray.size (rdE kFile l (Int.toNat i1)).2.1 : Int))) l i (IntKind.wrap .i64 (i1 + (1 : Int)))) (kke0 sum)
theorem i_Disk_used.l1_nat {R S : Type} (g : R → Option S) (kke0 : Int → Option R) : ∀ (n : Nat) (sum : Int) (l : List (El kFile)) (i : Int) (i1 : Int), i_Disk_used.l1 (fun y0 => (kke0 y0).bind g) n sum l i i1 = (i_Disk_used.l1 kke0 n sum l i i1).bind g := by
  intro n
  induction n with
  | zero => intros; rfl
  | succ n ih => intros; simp only [i_Disk_used.l1, grd_bind, cnd_bind, bnd_bind, non_bind, ih]
def i_Disk_used.F {R : Type} (kk : Int → Option R) (d_Room : Int) (d_Files : List (El kFile)) : Option R :=
  i_Disk_used.l1 (fun sum => kk sum) fuel (0 : Int) d_Files (List.length d_Files : Int) (0 : Int)
theorem i_Disk_used.F_nat {R S : Type} (g : R → Option S) (kk : Int → Option R) (d_Room : Int) (d_Files : List (El kFile)) : i_Disk_used.F (fun y0 => (kk y0).bind g) d_Room d_Files = (i_Disk_used.F kk d_Room d_Files).bind g := by
  simp only [i_Disk_used.F, grd_bind, cnd_bind, bnd_bind, non_bind, ← i_Disk_used.l1_nat]
def i_Disk_used (d_Room : Int) (d_Files : List (El kFile)) : Option Int := i_Disk_used.F (fun y0 => some y0) d_Room d_Files
theorem i_Disk_used_nat {S : Type} (g : Int → Option S) (d_Room : Int) (d_Files : List (El kFile)) : i_Disk_used.F (fun y0 => g y0) d_Room d_Files = (i_Disk_used d_Room d_Files).bind g := i_Disk_used.F_nat g (fun y0 => some y0) d_Room d_Files
def i_Disk_used.out : Int → CRes := fun a => ⟨encL SV.enc [.one (.int .i64)] (a, ()), [encL SC.enc [] ()]⟩
def i_Disk_used.ps : List PS := [.val [none, some (kFile, false)]]
def i_Disk_used.sA : List SA := [.v (.agg [.int .i64, .slv [] kFile])]
def i_Disk_used.fi : FI := FIs i_Disk_used.sA (Int) (fun t => i_Disk_used t.1.1 t.1.2.1) i_Disk_used.out i_Disk_used.ps
def i_Disk_used.E : Env := ⟨tt, lkF [], 20, 0, [], []⟩
def i_Disk_used.sh1 : SK := ⟨[.v (.one (.int .i64)), .v (.one (.slv [1] kFile)), .v (.one (.int .i64)), .v (.one (.int .i64))], []⟩
def i_Disk_used.sh1e0 : SK := ⟨[.v (.one (.int .i64))], []⟩
def i_Disk_used.ko1 : Ex → List CastAt × List Nat
  | .nrm => ([], [])
  | .ret => ([], [])
  | .ext i => cond (Nat.beq i 0) ([], [3]) ([], [])
def i_Disk_used.G1 (n : Nat) (R : Type) (t : i_Disk_used.sh1.T) (K : Ex → Kp → Option R) : Option R := i_Disk_used.l1 (fun y0 => K (.ext 0) (SK.enc i_Disk_used.sh1e0 ((y0, ()), ()))) n t.1.1 t.1.2.1 t.1.2.2.1 t.1.2.2.2.1
def i_Disk_used.S1 : Sum := ⟨([], [3, 7, 8, 9]), sumF i_Disk_used.sh1 (i_Disk_used.G1 fuel), i_Disk_used.ko1⟩
theorem i_Disk_used.ok1 (hE : EOk Tryz.prog (i_Disk_used.E)) : SumOk Tryz.prog i_Disk_used.E (cB (cR (cL (cR (cR (bodyOf Tryz.f113)))))) (i_Disk_used.S1) := by
  have hh : HintOk Tryz.prog i_Disk_used.E (cB (cB (cR (cL (cR (cR (bodyOf Tryz.f113))))))) (.a) := HintOk.n1 (Q := True) (by kernel_rfl) trivial
  have h := loopS (kin := ([], [3, 7, 8, 9])) (kout := i_Disk_used.ko1) (sh := i_Disk_used.sh1) (F := i_Disk_used.G1) (ops_ok (hE.gv _)) (by kernel_rfl) hh (fun _ _ _ => rfl) (fun n R t K => by kernel_rfl) fuel
  exact HintOk.n1 (c := (cB (cR (cL (cR (cR (bodyOf Tryz.f113))))))) (h := .s (i_Disk_used.S1)) (P := Tryz.prog) (E := i_Disk_used.E) (by kernel_rfl) h
theorem i_Disk_used.hok (hE : EOk Tryz.prog (i_Disk_used.E)) : HintOk Tryz.prog i_Disk_used.E (bodyOf Tryz.f113) (.n (.a) (.n (.a) (.n (.n (.a) (.b (.s (i_Disk_used.S1)))) (.a)))) := HintOk.n1 (Q := (True) ∧ ((True) ∧ (((True) ∧ (SumOk Tryz.prog i_Disk_used.E (cB (cR (cL (cR (cR (bodyOf Tryz.f113)))))) (i_Disk_used.S1))) ∧ (True)))) (by kernel_rfl) ⟨trivial, ⟨trivial, ⟨⟨trivial, (i_Disk_used.ok1 hE)⟩, trivial⟩⟩⟩
theorem i_Disk_used.hE : EOk Tryz.prog (i_Disk_used.E) := EOk.of ttOk (trivial)
theorem i_Disk_used.fok : FOk Tryz.prog 113 i_Disk_used.fi :=
  fokS (E := i_Disk_used.E) (wy := ⟨[[none]], [[]], []⟩) (h := (fun gs => .n (.a) (.n (.a) (.n (.n (.a) (.b (.s (i_Disk_used.S1)))) (.a))))) (G := fun t g => i_Disk_used.F (fun y0 => g y0) t.1.1 t.1.2.1) (by kernel_rfl) i_Disk_used.hE Tryz.func113 (by kernel_rfl) rfl (Nat.le_refl _) (fun t => HintOk.n1 (by kernel_rfl) (i_Disk_used.hok i_Disk_used.hE)) (fun t g => i_Disk_used_nat g t.1.1 t.1.2.1) (fun t => by kernel_rfl)
/-! loop.example_g00220_impl.NameOK -/
def i_NameOK.j1 {R : Type} (kkn : ByteArray → Int → Int → Bool → Int → Int → Option R) (t_ : ByteArray) (i : Int) (b : Int) (i1 : Int) (i2 : Int) : Option R :=
  cond (decide (b ≥ (97 : Int))) (
    cond (decide (b ≤ (122 : Int))) (kkn t_ i b true i1 i2) (
      cond (decide (b ≥ (65 : Int))) (cond (decide (b ≤ (90 : Int))) (kkn t_ i b true i1 i2) (kkn t_ i b (b == (95 : Int)) i1 i2)) (kkn t_ i b (b == (95 : Int)) i1 i2))) (
    cond (decide (b ≥ (65 : Int))) (cond (decide (b ≤ (90 : Int))) (kkn t_ i b true i1 i2) (kkn t_ i b (b == (95 : Int)) i1 i2)) (kkn t_ i b (b == (95 : Int)) i1 i2))
theorem i_NameOK.j1_nat {R S : Type} (g : R → Option S) (kkn : ByteArray → Int → Int → Bool → Int → Int → Option R) (t_ : ByteArray) (i : Int) (b : Int) (i1 : Int) (i2 : Int) : i_NameOK.j1 (fun y0 y1 y2 y3 y4 y5 => (kkn y0 y1 y2 y3 y4 y5).bind g) t_ i b i1 i2 = (i_NameOK.j1 kkn t_ i b i1 i2).bind g := by
  simp only [i_NameOK.j1, grd_bind, cnd_bind, bnd_bind, non_bind]
def i_NameOK.l2 {R : Type} (kke0 : ByteArray → Option R) (kkr : Bool → Option R) : Nat → ByteArray → Int → Int → Option R
  | 0, _, _, _ => none
  | n + 1, t_, i, i1 =>
    cond (decide (i1 < i)) (
      grd (gIx i1 (ByteArray.size t_)) <|
      i_NameOK.j1 (fun t_1 i2 b letter i3 i4 =>
        cond (!letter) (
          cond (i2 == (0 : Int)) (kkr false) (
            cond (decide (b < (48 : Int))) (kkr false) (
              cond (decide (b > (57 : Int))) (kkr false) (i_NameOK.l2 kke0 kkr n t_1 i3 (IntKind.wrap .i64 (i4 + (1 : Int))))))) (i_NameOK.l2 kke0 kkr n t_1 i3 (IntKind.wrap .i64 (i4 + (1 : Int))))) t_ i1 (byteAt t_ i1) i i1) (kke0 t_)
theorem i_NameOK.l2_nat {R S : Type} (g : R → Option S) (kke0 : ByteArray → Option R) (kkr : Bool → Option R) : ∀ (n : Nat) (t_ : ByteArray) (i : Int) (i1 : Int), i_NameOK.l2 (fun y0 => (kke0 y0).bind g) (fun y0 => (kkr y0).bind g) n t_ i i1 = (i_NameOK.l2 kke0 kkr n t_ i i1).bind g := by
  intro n
  induction n with
  | zero => intros; rfl
  | succ n ih => intros; simp only [i_NameOK.l2, grd_bind, cnd_bind, bnd_bind, non_bind, ← i_NameOK.j1_nat, ih]
def i_NameOK.F {R : Type} (kk : Bool → Option R) (t_ : ByteArray) : Option R :=
  i_NameOK.l2 (fun t_1 =>
    (i_within (ByteArray.size t_1 : Int) (1 : Int) (40 : Int)).bind fun r =>
    kk r) (fun b => kk b) fuel t_ (ByteArray.size t_ : Int) (0 : Int)
theorem i_NameOK.F_nat {R S : Type} (g : R → Option S) (kk : Bool → Option R) (t_ : ByteArray) : i_NameOK.F (fun y0 => (kk y0).bind g) t_ = (i_NameOK.F kk t_).bind g := by
  simp only [i_NameOK.F, grd_bind, cnd_bind, bnd_bind, non_bind, ← i_NameOK.l2_nat]
def i_NameOK (t_ : ByteArray) : Option Bool := i_NameOK.F (fun y0 => some y0) t_
theorem i_NameOK_nat {S : Type} (g : Bool → Option S) (t_ : ByteArray) : i_NameOK.F (fun y0 => g y0) t_ = (i_NameOK t_).bind g := i_NameOK.F_nat g (fun y0 => some y0) t_
def i_NameOK.out : Bool → CRes := fun a => ⟨encL SV.enc [.one (.bool)] (a, ()), [encL SC.enc [] ()]⟩
def i_NameOK.ps : List PS := [.val [none]]
def i_NameOK.sA : List SA := [.v (.one (.str))]
def i_NameOK.fi : FI := FIs i_NameOK.sA (Bool) (fun t => i_NameOK t.1) i_NameOK.out i_NameOK.ps
def i_NameOK.E : Env := ⟨tt, lkF [(67, i_within.fi)], 50, 0, [], []⟩
def i_NameOK.sh1 : SK := ⟨[.v (.one (.str)), .v (.one (.int .i64)), .v (.one (.int .u8)), .v (.one (.int .i64)), .v (.one (.int .i64))], []⟩
def i_NameOK.sh1n : SK := ⟨[.v (.one (.str)), .v (.one (.int .i64)), .v (.one (.int .u8)), .v (.one (.bool)), .v (.one (.int .i64)), .v (.one (.int .i64))], []⟩
def i_NameOK.ko1 : Ex → List CastAt × List Nat
  | .nrm => ([], [0, 3, 4, 5, 7, 8])
  | .ret => ([], [])
  | .ext i => ([], [])
def i_NameOK.G1 (R : Type) (t : i_NameOK.sh1.T) (K : Ex → Kp → Option R) : Option R := i_NameOK.j1 (fun y0 y1 y2 y3 y4 y5 => K .nrm (SK.enc i_NameOK.sh1n ((y0, y1, y2, y3, y4, y5, ()), ()))) t.1.1 t.1.2.1 t.1.2.2.1 t.1.2.2.2.1 t.1.2.2.2.2.1
def i_NameOK.S1 : Sum := ⟨([], [0, 3, 4, 7, 8]), sumF i_NameOK.sh1 (i_NameOK.G1), i_NameOK.ko1⟩
theorem i_NameOK.ok1 (hE : EOk Tryz.prog (i_NameOK.E)) : SumOk Tryz.prog i_NameOK.E (cL (cR (cR (cB (cL (cR (cR (cB (cB (cR (cL (cR (bodyOf Tryz.f114))))))))))))) (i_NameOK.S1) := by
  have hh : HintOk Tryz.prog i_NameOK.E (cL (cR (cR (cB (cL (cR (cR (cB (cB (cR (cL (cR (bodyOf Tryz.f114))))))))))))) (.a) := HintOk.n1 (Q := True) (by kernel_rfl) trivial
  exact sumS (kin := ([], [0, 3, 4, 7, 8])) (kout := i_NameOK.ko1) (sh := i_NameOK.sh1) (F := i_NameOK.G1) (ops_ok (hE.gv _)) (by kernel_rfl) hh (fun R t K => by kernel_rfl)
def i_NameOK.sh2 : SK := ⟨[.v (.one (.str)), .v (.one (.int .i64)), .v (.one (.int .i64))], []⟩
def i_NameOK.sh2e0 : SK := ⟨[.v (.one (.str))], []⟩
def i_NameOK.sh2r : SK := ⟨[.v (.one (.bool))], []⟩
def i_NameOK.ko2 : Ex → List CastAt × List Nat
  | .nrm => ([], [])
  | .ret => ([], [2])
  | .ext i => cond (Nat.beq i 0) ([], [0]) ([], [])
def i_NameOK.G2 (n : Nat) (R : Type) (t : i_NameOK.sh2.T) (K : Ex → Kp → Option R) : Option R := i_NameOK.l2 (fun y0 => K (.ext 0) (SK.enc i_NameOK.sh2e0 ((y0, ()), ()))) (fun y0 => K .ret (SK.enc i_NameOK.sh2r ((y0, ()), ()))) n t.1.1 t.1.2.1 t.1.2.2.1
def i_NameOK.S2 : Sum := ⟨([], [0, 7, 8]), sumF i_NameOK.sh2 (i_NameOK.G2 fuel), i_NameOK.ko2⟩
theorem i_NameOK.ok2 (hE : EOk Tryz.prog (i_NameOK.E)) : SumOk Tryz.prog i_NameOK.E (cB (cR (cL (cR (bodyOf Tryz.f114))))) (i_NameOK.S2) := by
  have hh : HintOk Tryz.prog i_NameOK.E (cB (cB (cR (cL (cR (bodyOf Tryz.f114)))))) (.n (.a) (.n (.a) (.n (.b (.n (.a) (.n (.a) (.n (.s (i_NameOK.S1)) (.a))))) (.a)))) := HintOk.n1 (Q := (True) ∧ ((True) ∧ (((True) ∧ ((True) ∧ ((SumOk Tryz.prog i_NameOK.E (cL (cR (cR (cB (cL (cR (cR (cB (cB (cR (cL (cR (bodyOf Tryz.f114))))))))))))) (i_NameOK.S1)) ∧ (True)))) ∧ (True)))) (by kernel_rfl) ⟨trivial, ⟨trivial, ⟨⟨trivial, ⟨trivial, ⟨(i_NameOK.ok1 hE), trivial⟩⟩⟩, trivial⟩⟩⟩
  have h := loopS (kin := ([], [0, 7, 8])) (kout := i_NameOK.ko2) (sh := i_NameOK.sh2) (F := i_NameOK.G2) (ops_ok (hE.gv _)) (by kernel_rfl) hh (fun _ _ _ => rfl) (fun n R t K => by kernel_rfl) fuel
  exact HintOk.n1 (c := (cB (cR (cL (cR (bodyOf Tryz.f114)))))) (h := .s (i_NameOK.S2)) (P := Tryz.prog) (E := i_NameOK.E) (by kernel_rfl) h
theorem i_NameOK.hok (hE : EOk Tryz.prog (i_NameOK.E)) : HintOk Tryz.prog i_NameOK.E (bodyOf Tryz.f114) (.n (.a) (.n (.n (.a) (.b (.s (i_NameOK.S2)))) (.a))) := HintOk.n1 (Q := (True) ∧ (((True) ∧ (SumOk Tryz.prog i_NameOK.E (cB (cR (cL (cR (bodyOf Tryz.f114))))) (i_NameOK.S2))) ∧ (True))) (by kernel_rfl) ⟨trivial, ⟨⟨trivial, (i_NameOK.ok2 hE)⟩, trivial⟩⟩
theorem i_NameOK.hE : EOk Tryz.prog (i_NameOK.E) := EOk.of ttOk (⟨i_within.fok, trivial⟩)
theorem i_NameOK.fok : FOk Tryz.prog 114 i_NameOK.fi :=
  fokS (E := i_NameOK.E) (wy := ⟨[[none]], [[]], []⟩) (h := (fun gs => .n (.a) (.n (.n (.a) (.b (.s (i_NameOK.S2)))) (.a)))) (G := fun t g => i_NameOK.F (fun y0 => g y0) t.1) (by kernel_rfl) i_NameOK.hE Tryz.func114 (by kernel_rfl) rfl (Nat.le_refl _) (fun t => HintOk.n1 (by kernel_rfl) (i_NameOK.hok i_NameOK.hE)) (fun t g => i_NameOK_nat g t.1) (fun t => by kernel_rfl)
/-! loop.example_g00220_impl.DiskOK -/
def i_DiskOK.l1 {R : Type} (kke0 : Option R) (kkr : Bool → Option R) : Nat → List (El kFile) → Int → Int → Int → List (El kFile) → Option R
  | 0, _, _, _, _, _ => none
  | n + 1, l, i, i1, d, d1 =>
    cond (decide (i1 < i)) (
      grd (gIx i1 (List.length l)) <|
      (i_NameOK ((rdE kFile l (Int.toNat i1)).1)).bind fun r =>
      cond (!r) (kkr false) (
        cond (decide (i1 > (0 : Int))) (
          grd (gIx (IntKind.wrap .i64 (i1 - (1 : Int))) (List.length d1)) <|
          cond (!(sLt (rdE kFile d1 (Int.toNat (IntKind.wrap .i64 (i1 - (1 : Int))))).1 (rdE kFile l (Int.toNat i1)).1)) (kkr false) (
            (i_within ((rdE kFile l (Int.toNat i1)).2.2) (0 : Int) (ByteArray.size (rdE kFile l (Int.toNat i1)).2.1 : Int)).bind fun r1 =>
            cond (!r1) (kkr false) (i_DiskOK.l1 kke0 kkr n l i (IntKind.wrap .i64 (i1 + (1 : Int))) d d1))) (
          (i_within ((rdE kFile l (Int.toNat i1)).2.2) (0 : Int) (ByteArray.size (rdE kFile l (Int.toNat i1)).2.1 : Int)).bind fun r2 =>
          cond (!r2) (kkr false) (i_DiskOK.l1 kke0 kkr n l i (IntKind.wrap .i64 (i1 + (1 : Int))) d d1)))) (kke0)
theorem i_DiskOK.l1_nat {R S : Type} (g : R → Option S) (kke0 : Option R) (kkr : Bool → Option R) : ∀ (n : Nat) (l : List (El kFile)) (i : Int) (i1 : Int) (d : Int) (d1 : List (El kFile)), i_DiskOK.l1 (kke0.bind g) (fun y0 => (kkr y0).bind g) n l i i1 d d1 = (i_DiskOK.l1 kke0 kkr n l i i1 d d1).bind g := by
  intro n
  induction n with
  | zero => intros; rfl
  | succ n ih => intros; simp only [i_DiskOK.l1, grd_bind, cnd_bind, bnd_bind, non_bind, ih]
def i_DiskOK.F {R : Type} (kk : Bool → Option R) (d_Room : Int) (d_Files : List (El kFile)) : Option R :=
  (i_within d_Room (0 : Int) (3000 : Int)).bind fun r =>
  cond (!r) (kk false) (
    cond (decide ((List.length d_Files : Int) > (8 : Int))) (kk false) (
      (i_Disk_used d_Room d_Files).bind fun r1 =>
      cond (decide (r1 > d_Room)) (kk false) (
        i_DiskOK.l1 (kk true) (fun b => kk b) fuel d_Files (List.length d_Files : Int) (0 : Int) d_Room d_Files)))
theorem i_DiskOK.F_nat {R S : Type} (g : R → Option S) (kk : Bool → Option R) (d_Room : Int) (d_Files : List (El kFile)) : i_DiskOK.F (fun y0 => (kk y0).bind g) d_Room d_Files = (i_DiskOK.F kk d_Room d_Files).bind g := by
  simp only [i_DiskOK.F, grd_bind, cnd_bind, bnd_bind, non_bind, ← i_DiskOK.l1_nat]
def i_DiskOK (d_Room : Int) (d_Files : List (El kFile)) : Option Bool := i_DiskOK.F (fun y0 => some y0) d_Room d_Files
theorem i_DiskOK_nat {S : Type} (g : Bool → Option S) (d_Room : Int) (d_Files : List (El kFile)) : i_DiskOK.F (fun y0 => g y0) d_Room d_Files = (i_DiskOK d_Room d_Files).bind g := i_DiskOK.F_nat g (fun y0 => some y0) d_Room d_Files
def i_DiskOK.out : Bool → CRes := fun a => ⟨encL SV.enc [.one (.bool)] (a, ()), [encL SC.enc [] ()]⟩
def i_DiskOK.ps : List PS := [.val [none, some (kFile, false)]]
def i_DiskOK.sA : List SA := [.v (.agg [.int .i64, .slv [] kFile])]
def i_DiskOK.fi : FI := FIs i_DiskOK.sA (Bool) (fun t => i_DiskOK t.1.1 t.1.2.1) i_DiskOK.out i_DiskOK.ps
def i_DiskOK.E : Env := ⟨tt, lkF [(67, i_within.fi), (113, i_Disk_used.fi), (114, i_NameOK.fi)], 60, 0, [], []⟩
def i_DiskOK.sh1 : SK := ⟨[.v (.one (.bptr 0 0)), .v (.one (.slv [1] kFile)), .v (.one (.int .i64)), .v (.one (.int .i64))], [.box [.int .i64, .slv [1] kFile]]⟩
def i_DiskOK.sh1e0 : SK := ⟨[], []⟩
def i_DiskOK.sh1r : SK := ⟨[.v (.one (.bool))], []⟩
def i_DiskOK.ko1 : Ex → List CastAt × List Nat
  | .nrm => ([], [])
  | .ret => ([], [2])
  | .ext i => cond (Nat.beq i 0) ([], []) ([], [])
def i_DiskOK.G1 (n : Nat) (R : Type) (t : i_DiskOK.sh1.T) (K : Ex → Kp → Option R) : Option R := i_DiskOK.l1 (K (.ext 0) (SK.enc i_DiskOK.sh1e0 ((), ()))) (fun y0 => K .ret (SK.enc i_DiskOK.sh1r ((y0, ()), ()))) n t.1.2.1 t.1.2.2.1 t.1.2.2.2.1 t.2.1.1 t.2.1.2.1
def i_DiskOK.S1 : Sum := ⟨([], [1, 23, 24, 25]), sumF i_DiskOK.sh1 (i_DiskOK.G1 fuel), i_DiskOK.ko1⟩
theorem i_DiskOK.ok1 (hE : EOk Tryz.prog (i_DiskOK.E)) : SumOk Tryz.prog i_DiskOK.E (cB (cR (cL (cR (cR (bodyOf Tryz.f65)))))) (i_DiskOK.S1) := by
  have hh : HintOk Tryz.prog i_DiskOK.E (cB (cB (cR (cL (cR (cR (bodyOf Tryz.f65))))))) (.a) := HintOk.n1 (Q := True) (by kernel_rfl) trivial
  have h := loopS (kin := ([], [1, 23, 24, 25])) (kout := i_DiskOK.ko1) (sh := i_DiskOK.sh1) (F := i_DiskOK.G1) (ops_ok (hE.gv _)) (by kernel_rfl) hh (fun _ _ _ => rfl) (fun n R t K => by kernel_rfl) fuel
  exact HintOk.n1 (c := (cB (cR (cL (cR (cR (bodyOf Tryz.f65))))))) (h := .s (i_DiskOK.S1)) (P := Tryz.prog) (E := i_DiskOK.E) (by kernel_rfl) h
theorem i_DiskOK.hok (hE : EOk Tryz.prog (i_DiskOK.E)) : HintOk Tryz.prog i_DiskOK.E (bodyOf Tryz.f65) (.n (.a) (.n (.a) (.n (.n (.a) (.b (.s (i_DiskOK.S1)))) (.a)))) := HintOk.n1 (Q := (True) ∧ ((True) ∧ (((True) ∧ (SumOk Tryz.prog i_DiskOK.E (cB (cR (cL (cR (cR (bodyOf Tryz.f65)))))) (i_DiskOK.S1))) ∧ (True)))) (by kernel_rfl) ⟨trivial, ⟨trivial, ⟨⟨trivial, (i_DiskOK.ok1 hE)⟩, trivial⟩⟩⟩
theorem i_DiskOK.hE : EOk Tryz.prog (i_DiskOK.E) := EOk.of ttOk (⟨i_within.fok, ⟨i_Disk_used.fok, ⟨i_NameOK.fok, trivial⟩⟩⟩)
theorem i_DiskOK.fok : FOk Tryz.prog 65 i_DiskOK.fi :=
  fokS (E := i_DiskOK.E) (wy := ⟨[[none]], [[]], []⟩) (h := (fun gs => .n (.a) (.n (.a) (.n (.n (.a) (.b (.s (i_DiskOK.S1)))) (.a))))) (G := fun t g => i_DiskOK.F (fun y0 => g y0) t.1.1 t.1.2.1) (by kernel_rfl) i_DiskOK.hE Tryz.func65 (by kernel_rfl) rfl (Nat.le_refl _) (fun t => HintOk.n1 (by kernel_rfl) (i_DiskOK.hok i_DiskOK.hE)) (fun t g => i_DiskOK_nat g t.1.1 t.1.2.1) (fun t => by kernel_rfl)
/-! slices.IndexFunc___string_string_ -/
def slices_IndexFunc_SLstring_string.l1 {R : Type} (f : ((ByteArray × Unit) → Option (Bool × Unit))) (kke0 : Option R) (kkr : Int → Option R) : Nat → List ByteArray → Int → Int → Option R
  | 0, _, _, _ => none
  | n + 1, s, i, i1 =>
    cond (decide (i1 < i)) (
      grd (gIx i1 (List.length s)) <|
      (f (rdE (.str : Kd) s (Int.toNat i1), ())).bind fun r =>
      cond (r.1) (kkr i1) (slices_IndexFunc_SLstring_string.l1 f kke0 kkr n s i (IntKind.wrap .i64 (i1 + (1 : Int))))) (kke0)
theorem slices_IndexFunc_SLstring_string.l1_nat {R S : Type} (g : R → Option S) (f : ((ByteArray × Unit) → Option (Bool × Unit))) (kke0 : Option R) (kkr : Int → Option R) : ∀ (n : Nat) (s : List ByteArray) (i : Int) (i1 : Int), slices_IndexFunc_SLstring_string.l1 f (kke0.bind g) (fun y0 => (kkr y0).bind g) n s i i1 = (slices_IndexFunc_SLstring_string.l1 f kke0 kkr n s i i1).bind g := by
  intro n
  induction n with
  | zero => intros; rfl
  | succ n ih => intros; simp only [slices_IndexFunc_SLstring_string.l1, grd_bind, cnd_bind, bnd_bind, non_bind, ih]
def slices_IndexFunc_SLstring_string.F {R : Type} (kk : Int → Option R) (s : List ByteArray) (f : ((ByteArray × Unit) → Option (Bool × Unit))) : Option R :=
  slices_IndexFunc_SLstring_string.l1 f (kk (-1 : Int)) (fun i => kk i) fuel s (List.length s : Int) (0 : Int)
theorem slices_IndexFunc_SLstring_string.F_nat {R S : Type} (g : R → Option S) (kk : Int → Option R) (s : List ByteArray) (f : ((ByteArray × Unit) → Option (Bool × Unit))) : slices_IndexFunc_SLstring_string.F (fun y0 => (kk y0).bind g) s f = (slices_IndexFunc_SLstring_string.F kk s f).bind g := by
  simp only [slices_IndexFunc_SLstring_string.F, grd_bind, cnd_bind, bnd_bind, non_bind, ← slices_IndexFunc_SLstring_string.l1_nat]
def slices_IndexFunc_SLstring_string (s : List ByteArray) (f : ((ByteArray × Unit) → Option (Bool × Unit))) : Option Int := slices_IndexFunc_SLstring_string.F (fun y0 => some y0) s f
theorem slices_IndexFunc_SLstring_string_nat {S : Type} (g : Int → Option S) (s : List ByteArray) (f : ((ByteArray × Unit) → Option (Bool × Unit))) : slices_IndexFunc_SLstring_string.F (fun y0 => g y0) s f = (slices_IndexFunc_SLstring_string s f).bind g := slices_IndexFunc_SLstring_string.F_nat g (fun y0 => some y0) s f
def slices_IndexFunc_SLstring_string.out : Int → CRes := fun a => ⟨encL SV.enc [.one (.int .i64)] (a, ()), [encL SC.enc [] (), encL SC.enc [] ()]⟩
def slices_IndexFunc_SLstring_string.ps : List PS := [.val [some (.str, false)], .fn [.one (.bool)]]
def slices_IndexFunc_SLstring_string.sA : List SA := [.v (.one (.slv [] .str)), .fn [.one (.str)] [.one (.bool)]]
def slices_IndexFunc_SLstring_string.fi : FI := FIs slices_IndexFunc_SLstring_string.sA (Int) (fun t => slices_IndexFunc_SLstring_string t.1 t.2.1) slices_IndexFunc_SLstring_string.out slices_IndexFunc_SLstring_string.ps
def slices_IndexFunc_SLstring_string.E : Env := ⟨tt, lkF [], 19, 0, [], []⟩
def slices_IndexFunc_SLstring_string.sh1 : SK := ⟨[.v (.one (.slv [1] .str)), .v (.one (.fv 0)), .v (.one (.int .i64)), .v (.one (.int .i64))], []⟩
def slices_IndexFunc_SLstring_string.sh1e0 : SK := ⟨[], []⟩
def slices_IndexFunc_SLstring_string.sh1r : SK := ⟨[.v (.one (.int .i64))], []⟩
def slices_IndexFunc_SLstring_string.ko1 : Ex → List CastAt × List Nat
  | .nrm => ([], [])
  | .ret => ([], [4])
  | .ext i => cond (Nat.beq i 0) ([], []) ([], [])
def slices_IndexFunc_SLstring_string.G1 (f : ((ByteArray × Unit) → Option (Bool × Unit))) (n : Nat) (R : Type) (t : slices_IndexFunc_SLstring_string.sh1.T) (K : Ex → Kp → Option R) : Option R := slices_IndexFunc_SLstring_string.l1 f (K (.ext 0) (SK.enc slices_IndexFunc_SLstring_string.sh1e0 ((), ()))) (fun y0 => K .ret (SK.enc slices_IndexFunc_SLstring_string.sh1r ((y0, ()), ()))) n t.1.1 t.1.2.2.1 t.1.2.2.2.1
def slices_IndexFunc_SLstring_string.S1 (f : ((ByteArray × Unit) → Option (Bool × Unit))) : Sum := ⟨([], [0, 1, 7, 8]), sumF slices_IndexFunc_SLstring_string.sh1 (slices_IndexFunc_SLstring_string.G1 f fuel), slices_IndexFunc_SLstring_string.ko1⟩
theorem slices_IndexFunc_SLstring_string.ok1 (f : ((ByteArray × Unit) → Option (Bool × Unit))) (hE : EOk Tryz.prog (slices_IndexFunc_SLstring_string.E)) : SumOk Tryz.prog { (slices_IndexFunc_SLstring_string.E) with gv := [fnE [.one (.str)] [.one (.bool)] f] } (cB (cR (cL (cR (bodyOf Tryz.f154))))) (slices_IndexFunc_SLstring_string.S1 f) := by
  have hh : HintOk Tryz.prog { (slices_IndexFunc_SLstring_string.E) with gv := [fnE [.one (.str)] [.one (.bool)] f] } (cB (cB (cR (cL (cR (bodyOf Tryz.f154)))))) (.a) := HintOk.n1 (Q := True) (by kernel_rfl) trivial
  have h := loopS (kin := ([], [0, 1, 7, 8])) (kout := slices_IndexFunc_SLstring_string.ko1) (sh := slices_IndexFunc_SLstring_string.sh1) (F := slices_IndexFunc_SLstring_string.G1 f) (ops_ok (hE.gv _)) (by kernel_rfl) hh (fun _ _ _ => rfl) (fun n R t K => by kernel_rfl) fuel
  exact HintOk.n1 (c := (cB (cR (cL (cR (bodyOf Tryz.f154)))))) (h := .s (slices_IndexFunc_SLstring_string.S1 f)) (P := Tryz.prog) (E := { (slices_IndexFunc_SLstring_string.E) with gv := [fnE [.one (.str)] [.one (.bool)] f] }) (by kernel_rfl) h
theorem slices_IndexFunc_SLstring_string.hok (f : ((ByteArray × Unit) → Option (Bool × Unit))) (hE : EOk Tryz.prog (slices_IndexFunc_SLstring_string.E)) : HintOk Tryz.prog { (slices_IndexFunc_SLstring_string.E) with gv := [fnE [.one (.str)] [.one (.bool)] f] } (bodyOf Tryz.f154) (.n (.a) (.n (.n (.a) (.b (.s (slices_IndexFunc_SLstring_string.S1 f)))) (.a))) := HintOk.n1 (Q := (True) ∧ (((True) ∧ (SumOk Tryz.prog { (slices_IndexFunc_SLstring_string.E) with gv := [fnE [.one (.str)] [.one (.bool)] f] } (cB (cR (cL (cR (bodyOf Tryz.f154))))) (slices_IndexFunc_SLstring_string.S1 f))) ∧ (True))) (by kernel_rfl) ⟨trivial, ⟨⟨trivial, (slices_IndexFunc_SLstring_string.ok1 f hE)⟩, trivial⟩⟩
theorem slices_IndexFunc_SLstring_string.hE : EOk Tryz.prog (slices_IndexFunc_SLstring_string.E) := EOk.of ttOk (trivial)
theorem slices_IndexFunc_SLstring_string.fok : FOk Tryz.prog 154 slices_IndexFunc_SLstring_string.fi :=
  fokS (E := slices_IndexFunc_SLstring_string.E) (wy := ⟨[[none]], [[], []], []⟩) (h := (fun gs => let f := fnP [.one (.str)] [.one (.bool)] (gN 0 gs); .n (.a) (.n (.n (.a) (.b (.s (slices_IndexFunc_SLstring_string.S1 f)))) (.a)))) (G := fun t g => slices_IndexFunc_SLstring_string.F (fun y0 => g y0) t.1 t.2.1) (by kernel_rfl) slices_IndexFunc_SLstring_string.hE Tryz.func154 (by kernel_rfl) rfl (Nat.le_refl _) (fun t => HintOk.n1 (by kernel_rfl) (slices_IndexFunc_SLstring_string.hok t.2.1 slices_IndexFunc_SLstring_string.hE)) (fun t g => slices_IndexFunc_SLstring_string_nat g t.1 t.2.1) (fun t => by kernel_rfl)
/-! slices.ContainsFunc___string_string_ -/
def slices_ContainsFunc_SLstring_string.F {R : Type} (kk : Bool → Option R) (s : List ByteArray) (f : ((ByteArray × Unit) → Option (Bool × Unit))) : Option R :=
  (slices_IndexFunc_SLstring_string s f).bind fun r =>
  kk (decide (r ≥ (0 : Int)))
theorem slices_ContainsFunc_SLstring_string.F_nat {R S : Type} (g : R → Option S) (kk : Bool → Option R) (s : List ByteArray) (f : ((ByteArray × Unit) → Option (Bool × Unit))) : slices_ContainsFunc_SLstring_string.F (fun y0 => (kk y0).bind g) s f = (slices_ContainsFunc_SLstring_string.F kk s f).bind g := by
  simp only [slices_ContainsFunc_SLstring_string.F, grd_bind, cnd_bind, bnd_bind, non_bind]
def slices_ContainsFunc_SLstring_string (s : List ByteArray) (f : ((ByteArray × Unit) → Option (Bool × Unit))) : Option Bool := slices_ContainsFunc_SLstring_string.F (fun y0 => some y0) s f
theorem slices_ContainsFunc_SLstring_string_nat {S : Type} (g : Bool → Option S) (s : List ByteArray) (f : ((ByteArray × Unit) → Option (Bool × Unit))) : slices_ContainsFunc_SLstring_string.F (fun y0 => g y0) s f = (slices_ContainsFunc_SLstring_string s f).bind g := slices_ContainsFunc_SLstring_string.F_nat g (fun y0 => some y0) s f
def slices_ContainsFunc_SLstring_string.out : Bool → CRes := fun a => ⟨encL SV.enc [.one (.bool)] (a, ()), [encL SC.enc [] (), encL SC.enc [] ()]⟩
def slices_ContainsFunc_SLstring_string.ps : List PS := [.val [some (.str, false)], .fn [.one (.bool)]]
def slices_ContainsFunc_SLstring_string.sA : List SA := [.v (.one (.slv [] .str)), .fn [.one (.str)] [.one (.bool)]]
def slices_ContainsFunc_SLstring_string.fi : FI := FIs slices_ContainsFunc_SLstring_string.sA (Bool) (fun t => slices_ContainsFunc_SLstring_string t.1 t.2.1) slices_ContainsFunc_SLstring_string.out slices_ContainsFunc_SLstring_string.ps
def slices_ContainsFunc_SLstring_string.E : Env := ⟨tt, lkF [(154, slices_IndexFunc_SLstring_string.fi)], 9, 0, [], []⟩
theorem slices_ContainsFunc_SLstring_string.hok (f : ((ByteArray × Unit) → Option (Bool × Unit))) (hE : EOk Tryz.prog (slices_ContainsFunc_SLstring_string.E)) : HintOk Tryz.prog { (slices_ContainsFunc_SLstring_string.E) with gv := [fnE [.one (.str)] [.one (.bool)] f] } (bodyOf Tryz.f117) (.a) := HintOk.n1 (Q := True) (by kernel_rfl) trivial
theorem slices_ContainsFunc_SLstring_string.hE : EOk Tryz.prog (slices_ContainsFunc_SLstring_string.E) := EOk.of ttOk (⟨slices_IndexFunc_SLstring_string.fok, trivial⟩)
theorem slices_ContainsFunc_SLstring_string.fok : FOk Tryz.prog 117 slices_ContainsFunc_SLstring_string.fi :=
  fokS (E := slices_ContainsFunc_SLstring_string.E) (wy := ⟨[[none]], [[], []], []⟩) (h := (fun gs => let f := fnP [.one (.str)] [.one (.bool)] (gN 0 gs); .a)) (G := fun t g => slices_ContainsFunc_SLstring_string.F (fun y0 => g y0) t.1 t.2.1) (by kernel_rfl) slices_ContainsFunc_SLstring_string.hE Tryz.func117 (by kernel_rfl) rfl (Nat.le_refl _) (fun t => HintOk.n1 (by kernel_rfl) (slices_ContainsFunc_SLstring_string.hok t.2.1 slices_ContainsFunc_SLstring_string.hE)) (fun t g => slices_ContainsFunc_SLstring_string_nat g t.1 t.2.1) (fun t => by kernel_rfl)
/-! loop.example_g00220_impl.isText$1 -/
def i_isText_1.F {R : Type} (kk : Bool → Option R) (t_ : ByteArray) : Option R :=
  kk (decide ((ByteArray.size t_ : Int) > (65536 : Int)))
theorem i_isText_1.F_nat {R S : Type} (g : R → Option S) (kk : Bool → Option R) (t_ : ByteArray) : i_isText_1.F (fun y0 => (kk y0).bind g) t_ = (i_isText_1.F kk t_).bind g := by
  simp only [i_isText_1.F, grd_bind, cnd_bind, bnd_bind, non_bind]
def i_isText_1 (t_ : ByteArray) : Option Bool := i_isText_1.F (fun y0 => some y0) t_
theorem i_isText_1_nat {S : Type} (g : Bool → Option S) (t_ : ByteArray) : i_isText_1.F (fun y0 => g y0) t_ = (i_isText_1 t_).bind g := i_isText_1.F_nat g (fun y0 => some y0) t_
def i_isText_1.out : Bool → CRes := fun a => ⟨encL SV.enc [.one (.bool)] (a, ()), [encL SC.enc [] ()]⟩
def i_isText_1.ps : List PS := [.val [none]]
def i_isText_1.sA : List SA := [.v (.one (.str))]
def i_isText_1.fi : FI := FIs i_isText_1.sA (Bool) (fun t => i_isText_1 t.1) i_isText_1.out i_isText_1.ps
def i_isText_1.E : Env := ⟨tt, lkF [], 6, 0, [], []⟩
theorem i_isText_1.hok (hE : EOk Tryz.prog (i_isText_1.E)) : HintOk Tryz.prog i_isText_1.E (bodyOf Tryz.f118) (.a) := HintOk.n1 (Q := True) (by kernel_rfl) trivial
theorem i_isText_1.hE : EOk Tryz.prog (i_isText_1.E) := EOk.of ttOk (trivial)
theorem i_isText_1.fok : FOk Tryz.prog 118 i_isText_1.fi :=
  fokS (E := i_isText_1.E) (wy := ⟨[[none]], [[]], []⟩) (h := (fun gs => .a)) (G := fun t g => i_isText_1.F (fun y0 => g y0) t.1) (by kernel_rfl) i_isText_1.hE Tryz.func118 (by kernel_rfl) rfl (Nat.le_refl _) (fun t => HintOk.n1 (by kernel_rfl) (i_isText_1.hok i_isText_1.hE)) (fun t g => i_isText_1_nat g t.1) (fun t => by kernel_rfl)
/-! loop.example_g00220_impl.isText -/
def i_isText.F {R : Type} (kk : Bool → Option R) (texts : List ByteArray) : Option R :=
  (slices_ContainsFunc_SLstring_string texts (fun t => (i_isText_1 t.1).bind fun a => some (a, ()))).bind fun r =>
  kk (!r)
theorem i_isText.F_nat {R S : Type} (g : R → Option S) (kk : Bool → Option R) (texts : List ByteArray) : i_isText.F (fun y0 => (kk y0).bind g) texts = (i_isText.F kk texts).bind g := by
  simp only [i_isText.F, grd_bind, cnd_bind, bnd_bind, non_bind]
def i_isText (texts : List ByteArray) : Option Bool := i_isText.F (fun y0 => some y0) texts
theorem i_isText_nat {S : Type} (g : Bool → Option S) (texts : List ByteArray) : i_isText.F (fun y0 => g y0) texts = (i_isText texts).bind g := i_isText.F_nat g (fun y0 => some y0) texts
def i_isText.out : Bool → CRes := fun a => ⟨encL SV.enc [.one (.bool)] (a, ()), [encL SC.enc [] ()]⟩
def i_isText.ps : List PS := [.val [some (.str, false)]]
def i_isText.sA : List SA := [.v (.one (.slv [] .str))]
def i_isText.fi : FI := FIs i_isText.sA (Bool) (fun t => i_isText t.1) i_isText.out i_isText.ps
def i_isText.E : Env := ⟨tt, lkF [(117, slices_ContainsFunc_SLstring_string.fi), (118, i_isText_1.fi)], 6, 0, [], []⟩
theorem i_isText.hok (hE : EOk Tryz.prog (i_isText.E)) : HintOk Tryz.prog i_isText.E (bodyOf Tryz.f69) (.a) := HintOk.n1 (Q := True) (by kernel_rfl) trivial
theorem i_isText.hE : EOk Tryz.prog (i_isText.E) := EOk.of ttOk (⟨slices_ContainsFunc_SLstring_string.fok, ⟨i_isText_1.fok, trivial⟩⟩)
theorem i_isText.fok : FOk Tryz.prog 69 i_isText.fi :=
  fokS (E := i_isText.E) (wy := ⟨[[none]], [[]], []⟩) (h := (fun gs => .a)) (G := fun t g => i_isText.F (fun y0 => g y0) t.1) (by kernel_rfl) i_isText.hE Tryz.func69 (by kernel_rfl) rfl (Nat.le_refl _) (fun t => HintOk.n1 (by kernel_rfl) (i_isText.hok i_isText.hE)) (fun t g => i_isText_nat g t.1) (fun t => by kernel_rfl)
/-! slices.Clone___loop.example_g00220_impl.File_loop.example_g00220_impl.File_ -/
def slices_Clone_SLi_File_i_File.F {R : Type} (kk : List (El kFile) → Option R) (s : List (El kFile)) : Option R :=
  cond (List.isEmpty s) (
    agree (kk []) (
      grd (gRm (((List.length ([] : List (El kFile))) + (List.length s)) * 40)) <|
      kk (([] : List (El kFile)) ++ s))) (
    grd (gRm (((List.length ([] : List (El kFile))) + (List.length s)) * 40)) <|
    kk (([] : List (El kFile)) ++ s))
theorem slices_Clone_SLi_File_i_File.F_nat {R S : Type} (g : R → Option S) (kk : List (El kFile) → Option R) (s : List (El kFile)) : slices_Clone_SLi_File_i_File.F (fun y0 => (kk y0).bind g) s = (slices_Clone_SLi_File_i_File.F kk s).bind g := by
  cases s with
  | nil =>
    have e : ∀ {R : Type} (k : List (El kFile) → Option R), slices_Clone_SLi_File_i_File.F k [] = agree (k []) (k []) := fun k => by kernel_rfl
    rw [e, e, agree_self, agree_self]
  | cons x l => simp only [slices_Clone_SLi_File_i_File.F, List.isEmpty_cons, cond_false, grd_bind]
def slices_Clone_SLi_File_i_File (s : List (El kFile)) : Option (List (El kFile)) := slices_Clone_SLi_File_i_File.F (fun y0 => some y0) s
theorem slices_Clone_SLi_File_i_File_nat {S : Type} (g : (List (El kFile)) → Option S) (s : List (El kFile)) : slices_Clone_SLi_File_i_File.F (fun y0 => g y0) s = (slices_Clone_SLi_File_i_File s).bind g := slices_Clone_SLi_File_i_File.F_nat g (fun y0 => some y0) s
def slices_Clone_SLi_File_i_File.out : (List (El kFile)) → CRes := fun a => ⟨encL SV.enc [.one (.own [] kFile true)] (a, ()), [encL SC.enc [] ()]⟩
def slices_Clone_SLi_File_i_File.ps : List PS := [.val [some (kFile, false)]]
def slices_Clone_SLi_File_i_File.sA : List SA := [.v (.one (.slv [] kFile))]
def slices_Clone_SLi_File_i_File.fi : FI := FIs slices_Clone_SLi_File_i_File.sA (List (El kFile)) (fun t => slices_Clone_SLi_File_i_File t.1) slices_Clone_SLi_File_i_File.out slices_Clone_SLi_File_i_File.ps
def slices_Clone_SLi_File_i_File.E : Env := ⟨tt, lkF [], 8, 0, [], []⟩
theorem slices_Clone_SLi_File_i_File.hok (hE : EOk Tryz.prog (slices_Clone_SLi_File_i_File.E)) : HintOk Tryz.prog slices_Clone_SLi_File_i_File.E (bodyOf Tryz.f101) (.a) := HintOk.n1 (Q := True) (by kernel_rfl) trivial
theorem slices_Clone_SLi_File_i_File.hE : EOk Tryz.prog (slices_Clone_SLi_File_i_File.E) := EOk.of ttOk (trivial)
theorem slices_Clone_SLi_File_i_File.fok : FOk Tryz.prog 101 slices_Clone_SLi_File_i_File.fi :=
  fokS (E := slices_Clone_SLi_File_i_File.E) (wy := ⟨[[some (kFile, true)]], [[]], []⟩) (h := (fun gs => .a)) (G := fun t g => slices_Clone_SLi_File_i_File.F (fun y0 => g y0) t.1) (by kernel_rfl) slices_Clone_SLi_File_i_File.hE Tryz.func101 (by kernel_rfl) rfl (Nat.le_refl _) (fun t => HintOk.n1 (by kernel_rfl) (slices_Clone_SLi_File_i_File.hok slices_Clone_SLi_File_i_File.hE)) (fun t g => slices_Clone_SLi_File_i_File_nat g t.1) (fun t => by kernel_rfl)
/-! loop.example_g00220_impl.copyDisk -/
def i_copyDisk.F {R : Type} (kk : Int → List (El kFile) → Option R) (d_Room : Int) (d_Files : List (El kFile)) : Option R :=
  (slices_Clone_SLi_File_i_File d_Files).bind fun r =>
  kk d_Room r
theorem i_copyDisk.F_nat {R S : Type} (g : R → Option S) (kk : Int → List (El kFile) → Option R) (d_Room : Int) (d_Files : List (El kFile)) : i_copyDisk.F (fun y0 y1 => (kk y0 y1).bind g) d_Room d_Files = (i_copyDisk.F kk d_Room d_Files).bind g := by
  simp only [i_copyDisk.F, grd_bind, cnd_bind, bnd_bind, non_bind]
def i_copyDisk (d_Room : Int) (d_Files : List (El kFile)) : Option (Int × List (El kFile)) := i_copyDisk.F (fun y0 y1 => some (y0, y1)) d_Room d_Files
theorem i_copyDisk_nat {S : Type} (g : (Int × List (El kFile)) → Option S) (d_Room : Int) (d_Files : List (El kFile)) : i_copyDisk.F (fun y0 y1 => g (y0, y1)) d_Room d_Files = (i_copyDisk d_Room d_Files).bind g := i_copyDisk.F_nat g (fun y0 y1 => some (y0, y1)) d_Room d_Files
def i_copyDisk.out : (Int × List (El kFile)) → CRes := fun a => ⟨encL SV.enc [.agg [.int .i64, .own [] kFile true]] ((a.1, a.2, ()), ()), [encL SC.enc [] ()]⟩
def i_copyDisk.ps : List PS := [.val [none, some (kFile, false)]]
def i_copyDisk.sA : List SA := [.v (.agg [.int .i64, .slv [] kFile])]
def i_copyDisk.fi : FI := FIs i_copyDisk.sA (Int × List (El kFile)) (fun t => i_copyDisk t.1.1 t.1.2.1) i_copyDisk.out i_copyDisk.ps
def i_copyDisk.E : Env := ⟨tt, lkF [(101, slices_Clone_SLi_File_i_File.fi)], 9, 0, [], []⟩
theorem i_copyDisk.hok (hE : EOk Tryz.prog (i_copyDisk.E)) : HintOk Tryz.prog i_copyDisk.E (bodyOf Tryz.f53) (.a) := HintOk.n1 (Q := True) (by kernel_rfl) trivial
theorem i_copyDisk.hE : EOk Tryz.prog (i_copyDisk.E) := EOk.of ttOk (⟨slices_Clone_SLi_File_i_File.fok, trivial⟩)
theorem i_copyDisk.fok : FOk Tryz.prog 53 i_copyDisk.fi :=
  fokS (E := i_copyDisk.E) (wy := ⟨[[none, some (kFile, true)]], [[]], []⟩) (h := (fun gs => .a)) (G := fun t g => i_copyDisk.F (fun y0 y1 => g (y0, y1)) t.1.1 t.1.2.1) (by kernel_rfl) i_copyDisk.hE Tryz.func53 (by kernel_rfl) rfl (Nat.le_refl _) (fun t => HintOk.n1 (by kernel_rfl) (i_copyDisk.hok i_copyDisk.hE)) (fun t g => i_copyDisk_nat g t.1.1 t.1.2.1) (fun t => by kernel_rfl)
/-! slices.BinarySearchFunc___loop.example_g00220_impl.File_loop.example_g00220_impl.File_string_ -/
def slices_BinarySearchFunc_SLi_File_i_File_string.l1 {R : Type} (cmp : (((ByteArray × ByteArray × Int × Unit) × ByteArray × Unit) → Option (Int × Unit))) (kke0 : List (El kFile) → ByteArray → Int → Int → Option R) : Nat → List (El kFile) → ByteArray → Int → Int → Int → Option R
  | 0, _, _, _, _, _ => none
  | n + 1, x, target, n_, i, j =>
    cond (decide (i < j)) (
      grd (gSh (1 : Int)) <|
      grd (gIx (IntKind.wrap .i64 (iShr .u64 (IntKind.wrap .u64 (IntKind.wrap .i64 (i + j))) (1 : Int))) (List.length x)) <|
      (cmp (((rdE kFile x (Int.toNat (IntKind.wrap .i64 (iShr .u64 (IntKind.wrap .u64 (IntKind.wrap .i64 (i + j))) (1 : Int))))).1, (rdE kFile x (Int.toNat (IntKind.wrap .i64 (iShr .u64 (IntKind.wrap .u64 (IntKind.wrap .i64 (i + j))) (1 : Int))))).2.1, (rdE kFile x (Int.toNat (IntKind.wrap .i64 (iShr .u64 (IntKind.wrap .u64 (IntKind.wrap .i64 (i + j))) (1 : Int))))).2.2, ()), target, ())).bind fun r =>
      cond (decide (r.1 < (0 : Int))) (
        slices_BinarySearchFunc_SLi_File_i_File_string.l1 cmp kke0 n x target n_ (IntKind.wrap .i64 ((IntKind.wrap .i64 (iShr .u64 (IntKind.wrap .u64 (IntKind.wrap .i64 (i + j))) (1 : Int))) + (1 : Int))) j) (
        slices_BinarySearchFunc_SLi_File_i_File_string.l1 cmp kke0 n x target n_ i (IntKind.wrap .i64 (iShr .u64 (IntKind.wrap .u64 (IntKind.wrap .i64 (i + j))) (1 : Int))))) (kke0 x target n_ i)
theorem slices_BinarySearchFunc_SLi_File_i_File_string.l1_nat {R S : Type} (g : R → Option S) (cmp : (((ByteArray × ByteArray × Int × Unit) × ByteArray × Unit) → Option (Int × Unit))) (kke0 : List (El kFile) → ByteArray → Int → Int → Option R) : ∀ (n : Nat) (x : List (El kFile)) (target : ByteArray) (n_ : Int) (i : Int) (j : Int), slices_BinarySearchFunc_SLi_File_i_File_string.l1 cmp (fun y0 y1 y2 y3 => (kke0 y0 y1 y2 y3).bind g) n x target n_ i j = (slices_BinarySearchFunc_SLi_File_i_File_string.l1 cmp kke0 n x target n_ i j).bind g := by
  intro n
  induction n with
  | zero => intros; rfl
  | succ n ih => intros; simp only [slices_BinarySearchFunc_SLi_File_i_File_string.l1, grd_bind, cnd_bind, bnd_bind, non_bind, ih]
def slices_BinarySearchFunc_SLi_File_i_File_string.F {R : Type} (kk : Int → Bool → Option R) (x : List (El kFile)) (target : ByteArray) (cmp : (((ByteArray × ByteArray × Int × Unit) × ByteArray × Unit) → Option (Int × Unit))) : Option R :=
  slices_BinarySearchFunc_SLi_File_i_File_string.l1 cmp (fun x1 target1 n_ i =>
    cond (decide (i < n_)) (
      grd (gIx i (List.length x1)) <|
      (cmp (((rdE kFile x1 (Int.toNat i)).1, (rdE kFile x1 (Int.toNat i)).2.1, (rdE kFile x1 (Int.toNat i)).2.2, ()), target1, ())).bind fun r =>
      kk i (r.1 == (0 : Int))) (kk i false)) fuel x target (List.length x : Int) (0 : Int) (List.length x : Int)
theorem slices_BinarySearchFunc_SLi_File_i_File_string.F_nat {R S : Type} (g : R → Option S) (kk : Int → Bool → Option R) (x : List (El kFile)) (target : ByteArray) (cmp : (((ByteArray × ByteArray × Int × Unit) × ByteArray × Unit) → Option (Int × Unit))) : slices_BinarySearchFunc_SLi_File_i_File_string.F (fun y0 y1 => (kk y0 y1).bind g) x target cmp = (slices_BinarySearchFunc_SLi_File_i_File_string.F kk x target cmp).bind g := by
  simp only [slices_BinarySearchFunc_SLi_File_i_File_string.F, grd_bind, cnd_bind, bnd_bind, non_bind, ← slices_BinarySearchFunc_SLi_File_i_File_string.l1_nat]
def slices_BinarySearchFunc_SLi_File_i_File_string (x : List (El kFile)) (target : ByteArray) (cmp : (((ByteArray × ByteArray × Int × Unit) × ByteArray × Unit) → Option (Int × Unit))) : Option (Int × Bool) := slices_BinarySearchFunc_SLi_File_i_File_string.F (fun y0 y1 => some (y0, y1)) x target cmp
theorem slices_BinarySearchFunc_SLi_File_i_File_string_nat {S : Type} (g : (Int × Bool) → Option S) (x : List (El kFile)) (target : ByteArray) (cmp : (((ByteArray × ByteArray × Int × Unit) × ByteArray × Unit) → Option (Int × Unit))) : slices_BinarySearchFunc_SLi_File_i_File_string.F (fun y0 y1 => g (y0, y1)) x target cmp = (slices_BinarySearchFunc_SLi_File_i_File_string x target cmp).bind g := slices_BinarySearchFunc_SLi_File_i_File_string.F_nat g (fun y0 y1 => some (y0, y1)) x target cmp
def slices_BinarySearchFunc_SLi_File_i_File_string.out : (Int × Bool) → CRes := fun a => ⟨encL SV.enc [.one (.int .i64), .one (.bool)] (a.1, a.2, ()), [encL SC.enc [] (), encL SC.enc [] (), encL SC.enc [] ()]⟩
def slices_BinarySearchFunc_SLi_File_i_File_string.ps : List PS := [.val [some (kFile, false)], .val [none], .fn [.one (.int .i64)]]
def slices_BinarySearchFunc_SLi_File_i_File_string.sA : List SA := [.v (.one (.slv [] kFile)), .v (.one (.str)), .fn [.agg [.str, .str, .int .i64], .one (.str)] [.one (.int .i64)]]
def slices_BinarySearchFunc_SLi_File_i_File_string.fi : FI := FIs slices_BinarySearchFunc_SLi_File_i_File_string.sA (Int × Bool) (fun t => slices_BinarySearchFunc_SLi_File_i_File_string t.1 t.2.1 t.2.2.1) slices_BinarySearchFunc_SLi_File_i_File_string.out slices_BinarySearchFunc_SLi_File_i_File_string.ps
def slices_BinarySearchFunc_SLi_File_i_File_string.E : Env := ⟨tt, lkF [], 49, 0, [], []⟩
def slices_BinarySearchFunc_SLi_File_i_File_string.sh1 : SK := ⟨[.v (.one (.slv [1] kFile)), .v (.one (.str)), .v (.one (.fv 0)), .v (.one (.int .i64)), .v (.one (.int .i64)), .v (.one (.int .i64))], []⟩
def slices_BinarySearchFunc_SLi_File_i_File_string.sh1e0 : SK := ⟨[.v (.one (.slv [1] kFile)), .v (.one (.str)), .v (.one (.fv 0)), .v (.one (.int .i64)), .v (.one (.int .i64))], []⟩
def slices_BinarySearchFunc_SLi_File_i_File_string.ko1 : Ex → List CastAt × List Nat
  | .nrm => ([], [])
  | .ret => ([], [])
  | .ext i => cond (Nat.beq i 0) ([], [0, 1, 2, 8, 9]) ([], [])
def slices_BinarySearchFunc_SLi_File_i_File_string.G1 (cmp : (((ByteArray × ByteArray × Int × Unit) × ByteArray × Unit) → Option (Int × Unit))) (n : Nat) (R : Type) (t : slices_BinarySearchFunc_SLi_File_i_File_string.sh1.T) (K : Ex → Kp → Option R) : Option R := slices_BinarySearchFunc_SLi_File_i_File_string.l1 cmp (fun y0 y1 y2 y3 => K (.ext 0) (SK.enc slices_BinarySearchFunc_SLi_File_i_File_string.sh1e0 ((y0, y1, (), y2, y3, ()), ()))) n t.1.1 t.1.2.1 t.1.2.2.2.1 t.1.2.2.2.2.1 t.1.2.2.2.2.2.1
def slices_BinarySearchFunc_SLi_File_i_File_string.S1 (cmp : (((ByteArray × ByteArray × Int × Unit) × ByteArray × Unit) → Option (Int × Unit))) : Sum := ⟨([], [0, 1, 2, 8, 9, 10]), sumF slices_BinarySearchFunc_SLi_File_i_File_string.sh1 (slices_BinarySearchFunc_SLi_File_i_File_string.G1 cmp fuel), slices_BinarySearchFunc_SLi_File_i_File_string.ko1⟩
theorem slices_BinarySearchFunc_SLi_File_i_File_string.ok1 (cmp : (((ByteArray × ByteArray × Int × Unit) × ByteArray × Unit) → Option (Int × Unit))) (hE : EOk Tryz.prog (slices_BinarySearchFunc_SLi_File_i_File_string.E)) : SumOk Tryz.prog { (slices_BinarySearchFunc_SLi_File_i_File_string.E) with gv := [fnE [.agg [.str, .str, .int .i64], .one (.str)] [.one (.int .i64)] cmp] } (cB (cL (cR (cR (cR (bodyOf Tryz.f127)))))) (slices_BinarySearchFunc_SLi_File_i_File_string.S1 cmp) := by
  have hh : HintOk Tryz.prog { (slices_BinarySearchFunc_SLi_File_i_File_string.E) with gv := [fnE [.agg [.str, .str, .int .i64], .one (.str)] [.one (.int .i64)] cmp] } (cB (cB (cL (cR (cR (cR (bodyOf Tryz.f127))))))) (.a) := HintOk.n1 (Q := True) (by kernel_rfl) trivial
  have h := loopS (kin := ([], [0, 1, 2, 8, 9, 10])) (kout := slices_BinarySearchFunc_SLi_File_i_File_string.ko1) (sh := slices_BinarySearchFunc_SLi_File_i_File_string.sh1) (F := slices_BinarySearchFunc_SLi_File_i_File_string.G1 cmp) (ops_ok (hE.gv _)) (by kernel_rfl) hh (fun _ _ _ => rfl) (fun n R t K => by kernel_rfl) fuel
  exact HintOk.n1 (c := (cB (cL (cR (cR (cR (bodyOf Tryz.f127))))))) (h := .s (slices_BinarySearchFunc_SLi_File_i_File_string.S1 cmp)) (P := Tryz.prog) (E := { (slices_BinarySearchFunc_SLi_File_i_File_string.E) with gv := [fnE [.agg [.str, .str, .int .i64], .one (.str)] [.one (.int .i64)] cmp] }) (by kernel_rfl) h
theorem slices_BinarySearchFunc_SLi_File_i_File_string.hok (cmp : (((ByteArray × ByteArray × Int × Unit) × ByteArray × Unit) → Option (Int × Unit))) (hE : EOk Tryz.prog (slices_BinarySearchFunc_SLi_File_i_File_string.E)) : HintOk Tryz.prog { (slices_BinarySearchFunc_SLi_File_i_File_string.E) with gv := [fnE [.agg [.str, .str, .int .i64], .one (.str)] [.one (.int .i64)] cmp] } (bodyOf Tryz.f127) (.n (.a) (.n (.a) (.n (.a) (.n (.b (.s (slices_BinarySearchFunc_SLi_File_i_File_string.S1 cmp))) (.a))))) := HintOk.n1 (Q := (True) ∧ ((True) ∧ ((True) ∧ ((SumOk Tryz.prog { (slices_BinarySearchFunc_SLi_File_i_File_string.E) with gv := [fnE [.agg [.str, .str, .int .i64], .one (.str)] [.one (.int .i64)] cmp] } (cB (cL (cR (cR (cR (bodyOf Tryz.f127)))))) (slices_BinarySearchFunc_SLi_File_i_File_string.S1 cmp)) ∧ (True))))) (by kernel_rfl) ⟨trivial, ⟨trivial, ⟨trivial, ⟨(slices_BinarySearchFunc_SLi_File_i_File_string.ok1 cmp hE), trivial⟩⟩⟩⟩
theorem slices_BinarySearchFunc_SLi_File_i_File_string.hE : EOk Tryz.prog (slices_BinarySearchFunc_SLi_File_i_File_string.E) := EOk.of ttOk (trivial)
theorem slices_BinarySearchFunc_SLi_File_i_File_string.fok : FOk Tryz.prog 127 slices_BinarySearchFunc_SLi_File_i_File_string.fi :=
  fokS (E := slices_BinarySearchFunc_SLi_File_i_File_string.E) (wy := ⟨[[none], [none]], [[], [], []], []⟩) (h := (fun gs => let cmp := fnP [.agg [.str, .str, .int .i64], .one (.str)] [.one (.int .i64)] (gN 0 gs); .n (.a) (.n (.a) (.n (.a) (.n (.b (.s (slices_BinarySearchFunc_SLi_File_i_File_string.S1 cmp))) (.a)))))) (G := fun t g => slices_BinarySearchFunc_SLi_File_i_File_string.F (fun y0 y1 => g (y0, y1)) t.1 t.2.1 t.2.2.1) (by kernel_rfl) slices_BinarySearchFunc_SLi_File_i_File_string.hE Tryz.func127 (by kernel_rfl) rfl (Nat.le_refl _) (fun t => HintOk.n1 (by kernel_rfl) (slices_BinarySearchFunc_SLi_File_i_File_string.hok t.2.2.1 slices_BinarySearchFunc_SLi_File_i_File_string.hE)) (fun t g => slices_BinarySearchFunc_SLi_File_i_File_string_nat g t.1 t.2.1 t.2.2.1) (fun t => by kernel_rfl)
/-! strings.Compare -/
theorem cmp_ex : ∃ f : ByteArray → ByteArray → Int, f = (fun a b => Lib.compareBytes a.data.toList b.data.toList) := ⟨_, rfl⟩
/-- Chosen, so that the kernel does not unfold it. -/
noncomputable def cmpS : ByteArray → ByteArray → Int := Classical.choose cmp_ex
theorem cmpS_eq (a b : ByteArray) : cmpS a b = Lib.compareBytes a.data.toList b.data.toList := congrFun (congrFun (Classical.choose_spec cmp_ex) a) b
noncomputable def strings_Compare.F {R : Type} (kk : Int → Option R) (a b : ByteArray) : Option R := kk (cmpS a b)
theorem strings_Compare_ex : ∃ f : ByteArray → ByteArray → Option Int, f = fun a b => strings_Compare.F (fun y0 => some y0) a b := ⟨_, rfl⟩
noncomputable def strings_Compare : ByteArray → ByteArray → Option Int := Classical.choose strings_Compare_ex
theorem strings_Compare_eq (a b : ByteArray) : strings_Compare a b = strings_Compare.F (fun y0 => some y0) a b := congrFun (congrFun (Classical.choose_spec strings_Compare_ex) a) b
def strings_Compare.out : (Int) → CRes := fun a => ⟨encL SV.enc [.one (.int .i64)] (a, ()), [encL SC.enc [] (), encL SC.enc [] ()]⟩
def strings_Compare.ps : List PS := [.val [none], .val [none]]
def strings_Compare.sA : List SA := [.v (.one (.str)), .v (.one (.str))]
noncomputable def strings_Compare.fi : FI := FIs strings_Compare.sA (Int) (fun t => strings_Compare t.1 t.2.1) strings_Compare.out strings_Compare.ps
theorem strings_Compare.fok : FOk Tryz.prog 129 strings_Compare.fi := by
  refine fok_ext ⟨_, _, Tryz.func129, by kernel_rfl, rfl⟩ (by kernel_rfl) (fun a => [.int .i64 a]) (fun a => by kernel_rfl) (fun a => by kernel_rfl) (fun t a h w => ?_)
  obtain ⟨s, c, u⟩ := t
  have h' : some (cmpS s c) = some a := (strings_Compare_eq s c).symm.trans h
  obtain rfl := Option.some.inj h'
  rw [cmpS_eq]
  refine (Any.strings_Compare Tryz.lays106 s c w).mono ?_
  rintro e w' ⟨rfl, rfl⟩
  exact ⟨rfl, RowKit.Below.refl _ _⟩
/-! _loop.example_g00220_impl.Disk_.fileAt$1 -/
def i_Disk_fileAt_1.F {R : Type} (kk : Int → Option R) (f_Name : ByteArray) (f_Data : ByteArray) (f_Sure : Int) (name : ByteArray) : Option R :=
  (strings_Compare f_Name name).bind fun r =>
  kk r
theorem i_Disk_fileAt_1.F_nat {R S : Type} (g : R → Option S) (kk : Int → Option R) (f_Name : ByteArray) (f_Data : ByteArray) (f_Sure : Int) (name : ByteArray) : i_Disk_fileAt_1.F (fun y0 => (kk y0).bind g) f_Name f_Data f_Sure name = (i_Disk_fileAt_1.F kk f_Name f_Data f_Sure name).bind g := by
  simp only [i_Disk_fileAt_1.F, grd_bind, cnd_bind, bnd_bind, non_bind]
def i_Disk_fileAt_1 (f_Name : ByteArray) (f_Data : ByteArray) (f_Sure : Int) (name : ByteArray) : Option Int := i_Disk_fileAt_1.F (fun y0 => some y0) f_Name f_Data f_Sure name
theorem i_Disk_fileAt_1_nat {S : Type} (g : Int → Option S) (f_Name : ByteArray) (f_Data : ByteArray) (f_Sure : Int) (name : ByteArray) : i_Disk_fileAt_1.F (fun y0 => g y0) f_Name f_Data f_Sure name = (i_Disk_fileAt_1 f_Name f_Data f_Sure name).bind g := i_Disk_fileAt_1.F_nat g (fun y0 => some y0) f_Name f_Data f_Sure name
def i_Disk_fileAt_1.out : Int → CRes := fun a => ⟨encL SV.enc [.one (.int .i64)] (a, ()), [encL SC.enc [] (), encL SC.enc [] ()]⟩
def i_Disk_fileAt_1.ps : List PS := [.val [none, none, none], .val [none]]
def i_Disk_fileAt_1.sA : List SA := [.v (.agg [.str, .str, .int .i64]), .v (.one (.str))]
def i_Disk_fileAt_1.fi : FI := FIs i_Disk_fileAt_1.sA (Int) (fun t => i_Disk_fileAt_1 t.1.1 t.1.2.1 t.1.2.2.1 t.2.1) i_Disk_fileAt_1.out i_Disk_fileAt_1.ps
def i_Disk_fileAt_1.E : Env := ⟨tt, lkF [(129, strings_Compare.fi)], 9, 0, [], []⟩
theorem i_Disk_fileAt_1.hok (hE : EOk Tryz.prog (i_Disk_fileAt_1.E)) : HintOk Tryz.prog i_Disk_fileAt_1.E (bodyOf Tryz.f128) (.a) := HintOk.n1 (Q := True) (by kernel_rfl) trivial
theorem i_Disk_fileAt_1.hE : EOk Tryz.prog (i_Disk_fileAt_1.E) := EOk.of ttOk (⟨strings_Compare.fok, trivial⟩)
theorem i_Disk_fileAt_1.fok : FOk Tryz.prog 128 i_Disk_fileAt_1.fi :=
  fokS (E := i_Disk_fileAt_1.E) (wy := ⟨[[none]], [[], []], []⟩) (h := (fun gs => .a)) (G := fun t g => i_Disk_fileAt_1.F (fun y0 => g y0) t.1.1 t.1.2.1 t.1.2.2.1 t.2.1) (by kernel_rfl) i_Disk_fileAt_1.hE Tryz.func128 (by kernel_rfl) rfl (Nat.le_refl _) (fun t => HintOk.n1 (by kernel_rfl) (i_Disk_fileAt_1.hok i_Disk_fileAt_1.hE)) (fun t g => i_Disk_fileAt_1_nat g t.1.1 t.1.2.1 t.1.2.2.1 t.2.1) (fun t => by kernel_rfl)
/-! _loop.example_g00220_impl.Disk_.fileAt -/
def i_Disk_fileAt.F {R : Type} (kk : Int → Bool → Option R) (d_Room : Int) (d_Files : List (El kFile)) (name : ByteArray) : Option R :=
  (slices_BinarySearchFunc_SLi_File_i_File_string d_Files name (fun t => (i_Disk_fileAt_1 t.1.1 t.1.2.1 t.1.2.2.1 t.2.1).bind fun a => some (a, ()))).bind fun r =>
  kk r.1 r.2
theorem i_Disk_fileAt.F_nat {R S : Type} (g : R → Option S) (kk : Int → Bool → Option R) (d_Room : Int) (d_Files : List (El kFile)) (name : ByteArray) : i_Disk_fileAt.F (fun y0 y1 => (kk y0 y1).bind g) d_Room d_Files name = (i_Disk_fileAt.F kk d_Room d_Files name).bind g := by
  simp only [i_Disk_fileAt.F, grd_bind, cnd_bind, bnd_bind, non_bind]
def i_Disk_fileAt (d_Room : Int) (d_Files : List (El kFile)) (name : ByteArray) : Option (Int × Bool) := i_Disk_fileAt.F (fun y0 y1 => some (y0, y1)) d_Room d_Files name
theorem i_Disk_fileAt_nat {S : Type} (g : (Int × Bool) → Option S) (d_Room : Int) (d_Files : List (El kFile)) (name : ByteArray) : i_Disk_fileAt.F (fun y0 y1 => g (y0, y1)) d_Room d_Files name = (i_Disk_fileAt d_Room d_Files name).bind g := i_Disk_fileAt.F_nat g (fun y0 y1 => some (y0, y1)) d_Room d_Files name
def i_Disk_fileAt.out : (Int × Bool) → CRes := fun a => ⟨encL SV.enc [.one (.int .i64), .one (.bool)] (a.1, a.2, ()), [encL SC.enc [] (), encL SC.enc [] ()]⟩
def i_Disk_fileAt.ps : List PS := [.val [none, some (kFile, false)], .val [none]]
def i_Disk_fileAt.sA : List SA := [.v (.agg [.int .i64, .slv [] kFile]), .v (.one (.str))]
def i_Disk_fileAt.fi : FI := FIs i_Disk_fileAt.sA (Int × Bool) (fun t => i_Disk_fileAt t.1.1 t.1.2.1 t.2.1) i_Disk_fileAt.out i_Disk_fileAt.ps
def i_Disk_fileAt.E : Env := ⟨tt, lkF [(127, slices_BinarySearchFunc_SLi_File_i_File_string.fi), (128, i_Disk_fileAt_1.fi)], 12, 0, [], []⟩
theorem i_Disk_fileAt.hok (hE : EOk Tryz.prog (i_Disk_fileAt.E)) : HintOk Tryz.prog i_Disk_fileAt.E (bodyOf Tryz.f76) (.a) := HintOk.n1 (Q := True) (by kernel_rfl) trivial
theorem i_Disk_fileAt.hE : EOk Tryz.prog (i_Disk_fileAt.E) := EOk.of ttOk (⟨slices_BinarySearchFunc_SLi_File_i_File_string.fok, ⟨i_Disk_fileAt_1.fok, trivial⟩⟩)
theorem i_Disk_fileAt.fok : FOk Tryz.prog 76 i_Disk_fileAt.fi :=
  fokS (E := i_Disk_fileAt.E) (wy := ⟨[[none], [none]], [[], []], []⟩) (h := (fun gs => .a)) (G := fun t g => i_Disk_fileAt.F (fun y0 y1 => g (y0, y1)) t.1.1 t.1.2.1 t.2.1) (by kernel_rfl) i_Disk_fileAt.hE Tryz.func76 (by kernel_rfl) rfl (Nat.le_refl _) (fun t => HintOk.n1 (by kernel_rfl) (i_Disk_fileAt.hok i_Disk_fileAt.hE)) (fun t g => i_Disk_fileAt_nat g t.1.1 t.1.2.1 t.2.1) (fun t => by kernel_rfl)
/-! slices.Insert___loop.example_g00220_impl.File_loop.example_g00220_impl.File_ -/

/-! __loop.example_g00220_impl.Disk_.append -/
def i_Disk_append.j1 {R : Type} (kkn : ByteArray → ByteArray → Int → Bool → Bool → Int → List (El kFile) → Option R) (name : ByteArray) (data : ByteArray) (k_ : Int) (found : Bool) (d : Int) (l : List (El kFile)) : Option R :=
  cond (!found) (
    cond ((List.length l : Int) == (8 : Int)) (kkn name data k_ found true d l) (
      (i_Disk_used d l).bind fun r =>
      kkn name data k_ found (decide ((ByteArray.size data : Int) > (IntKind.wrap .i64 (d - r)))) d l)) (
    (i_Disk_used d l).bind fun r1 =>
    kkn name data k_ found (decide ((ByteArray.size data : Int) > (IntKind.wrap .i64 (d - r1)))) d l)
theorem i_Disk_append.j1_nat {R S : Type} (g : R → Option S) (kkn : ByteArray → ByteArray → Int → Bool → Bool → Int → List (El kFile) → Option R) (name : ByteArray) (data : ByteArray) (k_ : Int) (found : Bool) (d : Int) (l : List (El kFile)) : i_Disk_append.j1 (fun y0 y1 y2 y3 y4 y5 y6 => (kkn y0 y1 y2 y3 y4 y5 y6).bind g) name data k_ found d l = (i_Disk_append.j1 kkn name data k_ found d l).bind g := by
  simp only [i_Disk_append.j1, grd_bind, cnd_bind, bnd_bind, non_bind]
def i_Disk_append.j2 {R : Type} (kkn : ByteArray → Int → Int → List (El kFile) → Option R) (kkr : Int → Int → List (El kFile) → Option R) (name : ByteArray) (data : ByteArray) (k_ : Int) (found : Bool) (d : Int) (l : List (El kFile)) : Option R :=
  (i_NameOK name).bind fun r =>
  cond (!r) (kkr (1 : Int) d l) (
    i_Disk_append.j1 (fun name1 data1 k_1 found1 b d1 l1 =>
      cond (b) (kkr (7 : Int) d1 l1) (
        cond (!found1) (
          (slices_Insert_SLi_File_i_File l1 k_1 [(name1, (ByteArray.empty, (0 : Int)))]).bind fun r1 =>
          kkn data1 k_1 d1 r1) (kkn data1 k_1 d1 l1))) name data k_ found d l)
theorem i_Disk_append.j2_nat {R S : Type} (g : R → Option S) (kkn : ByteArray → Int → Int → List (El kFile) → Option R) (kkr : Int → Int → List (El kFile) → Option R) (name : ByteArray) (data : ByteArray) (k_ : Int) (found : Bool) (d : Int) (l : List (El kFile)) : i_Disk_append.j2 (fun y0 y1 y2 y3 => (kkn y0 y1 y2 y3).bind g) (fun y0 y1 y2 => (kkr y0 y1 y2).bind g) name data k_ found d l = (i_Disk_append.j2 kkn kkr name data k_ found d l).bind g := by
  simp only [i_Disk_append.j2, grd_bind, cnd_bind, bnd_bind, non_bind, ← i_Disk_append.j1_nat]
def i_Disk_append.F {R : Type} (kk : Int → Int → List (El kFile) → Option R) (d_Room : Int) (d_Files : List (El kFile)) (name : ByteArray) (data : ByteArray) : Option R :=
  (i_Disk_fileAt d_Room d_Files name).bind fun r =>
  i_Disk_append.j2 (fun data1 k_ d l =>
    grd (gIx k_ (List.length l)) <|
    grd (gCat (rdE kFile l (Int.toNat k_)).2.1 data1) <|
    grd (gIx k_ (List.length l)) <|
    kk (0 : Int) d (setE kFile l (Int.toNat k_) ((rdE kFile l (Int.toNat k_)).1, ((rdE kFile l (Int.toNat k_)).2.1 ++ data1, (rdE kFile l (Int.toNat k_)).2.2)))) (fun i d1 l1 => kk i d1 l1) name data r.1 r.2 d_Room d_Files
theorem i_Disk_append.F_nat {R S : Type} (g : R → Option S) (kk : Int → Int → List (El kFile) → Option R) (d_Room : Int) (d_Files : List (El kFile)) (name : ByteArray) (data : ByteArray) : i_Disk_append.F (fun y0 y1 y2 => (kk y0 y1 y2).bind g) d_Room d_Files name data = (i_Disk_append.F kk d_Room d_Files name data).bind g := by
  simp only [i_Disk_append.F, grd_bind, cnd_bind, bnd_bind, non_bind, ← i_Disk_append.j2_nat]
def i_Disk_append (d_Room : Int) (d_Files : List (El kFile)) (name : ByteArray) (data : ByteArray) : Option (Int × Int × List (El kFile)) := i_Disk_append.F (fun y0 y1 y2 => some (y0, y1, y2)) d_Room d_Files name data
theorem i_Disk_append_nat {S : Type} (g : (Int × Int × List (El kFile)) → Option S) (d_Room : Int) (d_Files : List (El kFile)) (name : ByteArray) (data : ByteArray) : i_Disk_append.F (fun y0 y1 y2 => g (y0, y1, y2)) d_Room d_Files name data = (i_Disk_append d_Room d_Files name data).bind g := i_Disk_append.F_nat g (fun y0 y1 y2 => some (y0, y1, y2)) d_Room d_Files name data
def i_Disk_append.out : (Int × Int × List (El kFile)) → CRes := fun a => ⟨encL SV.enc [.one (.int .i64)] (a.1, ()), [encL SC.enc [.int .i64, .own [] kFile true] (a.2.1, a.2.2, ()), encL SC.enc [] (), encL SC.enc [] ()]⟩
def i_Disk_append.ps : List PS := [.ptr [none, some (kFile, true)], .val [none], .val [none]]
def i_Disk_append.sA : List SA := [.ptr [.int .i64, .own [] kFile true], .v (.one (.str)), .v (.one (.str))]
def i_Disk_append.fi : FI := FIs i_Disk_append.sA (Int × Int × List (El kFile)) (fun t => i_Disk_append t.1.1 t.1.2.1 t.2.1 t.2.2.1) i_Disk_append.out i_Disk_append.ps
def i_Disk_append.E : Env := ⟨tt, lkF [(76, i_Disk_fileAt.fi), (113, i_Disk_used.fi), (114, i_NameOK.fi), (149, slices_Insert_SLi_File_i_File.fi)], 73, 1, [], []⟩
def i_Disk_append.sh1 : SK := ⟨[.v (.one (.bptr 0 0)), .v (.one (.str)), .v (.one (.str)), .v (.one (.int .i64)), .v (.one (.bool))], [.box [.int .i64, .slo 1], .arr kFile [] true]⟩
def i_Disk_append.sh1n : SK := ⟨[.v (.one (.bptr 0 0)), .v (.one (.str)), .v (.one (.str)), .v (.one (.int .i64)), .v (.one (.bool)), .v (.one (.bool))], [.box [.int .i64, .slo 1], .arr kFile [] true]⟩
def i_Disk_append.ko1 : Ex → List CastAt × List Nat
  | .nrm => ([], [0, 1, 2, 7, 8, 21])
  | .ret => ([], [])
  | .ext i => ([], [])
def i_Disk_append.G1 (R : Type) (t : i_Disk_append.sh1.T) (K : Ex → Kp → Option R) : Option R := i_Disk_append.j1 (fun y0 y1 y2 y3 y4 y5 y6 => K .nrm (SK.enc i_Disk_append.sh1n (((), y0, y1, y2, y3, y4, ()), ((y5, (), ()), y6, ())))) t.1.2.1 t.1.2.2.1 t.1.2.2.2.1 t.1.2.2.2.2.1 t.2.1.1 t.2.2.1
def i_Disk_append.S1 : Sum := ⟨([], [0, 1, 2, 7, 8]), sumF i_Disk_append.sh1 (i_Disk_append.G1), i_Disk_append.ko1⟩
theorem i_Disk_append.ok1 (hE : EOk Tryz.prog (i_Disk_append.E)) : SumOk Tryz.prog i_Disk_append.E (cL (cR (cR (cB (cL (cR (cR (bodyOf Tryz.f104)))))))) (i_Disk_append.S1) := by
  have hh : HintOk Tryz.prog i_Disk_append.E (cL (cR (cR (cB (cL (cR (cR (bodyOf Tryz.f104)))))))) (.a) := HintOk.n1 (Q := True) (by kernel_rfl) trivial
  exact sumS (kin := ([], [0, 1, 2, 7, 8])) (kout := i_Disk_append.ko1) (sh := i_Disk_append.sh1) (F := i_Disk_append.G1) (ops_ok (hE.gv _)) (by kernel_rfl) hh (fun R t K => by kernel_rfl)
def i_Disk_append.sh2 : SK := ⟨[.v (.one (.bptr 0 0)), .v (.one (.str)), .v (.one (.str)), .v (.one (.int .i64)), .v (.one (.bool))], [.box [.int .i64, .slo 1], .arr kFile [] true]⟩
def i_Disk_append.sh2n : SK := ⟨[.v (.one (.bptr 0 0)), .v (.one (.str)), .v (.one (.int .i64))], [.box [.int .i64, .slo 1], .arr kFile [] true]⟩
def i_Disk_append.sh2r : SK := ⟨[.v (.one (.bptr 0 0)), .v (.one (.int .i64))], [.box [.int .i64, .slo 1], .arr kFile [] true]⟩
def i_Disk_append.ko2 : Ex → List CastAt × List Nat
  | .nrm => ([], [0, 2, 7])
  | .ret => ([], [0, 6])
  | .ext i => ([], [])
def i_Disk_append.G2 (R : Type) (t : i_Disk_append.sh2.T) (K : Ex → Kp → Option R) : Option R := i_Disk_append.j2 (fun y0 y1 y2 y3 => K .nrm (SK.enc i_Disk_append.sh2n (((), y0, y1, ()), ((y2, (), ()), y3, ())))) (fun y0 y1 y2 => K .ret (SK.enc i_Disk_append.sh2r (((), y0, ()), ((y1, (), ()), y2, ())))) t.1.2.1 t.1.2.2.1 t.1.2.2.2.1 t.1.2.2.2.2.1 t.2.1.1 t.2.2.1
def i_Disk_append.S2 : Sum := ⟨([], [0, 1, 2, 7, 8]), sumF i_Disk_append.sh2 (i_Disk_append.G2), i_Disk_append.ko2⟩
theorem i_Disk_append.ok2 (hE : EOk Tryz.prog (i_Disk_append.E)) : SumOk Tryz.prog i_Disk_append.E (cL (cR (cR (bodyOf Tryz.f104)))) (i_Disk_append.S2) := by
  have hh : HintOk Tryz.prog i_Disk_append.E (cL (cR (cR (bodyOf Tryz.f104)))) (.b (.n (.a) (.n (.a) (.n (.s (i_Disk_append.S1)) (.a))))) := HintOk.n1 (Q := (True) ∧ ((True) ∧ ((SumOk Tryz.prog i_Disk_append.E (cL (cR (cR (cB (cL (cR (cR (bodyOf Tryz.f104)))))))) (i_Disk_append.S1)) ∧ (True)))) (by kernel_rfl) ⟨trivial, ⟨trivial, ⟨(i_Disk_append.ok1 hE), trivial⟩⟩⟩
  exact sumS (kin := ([], [0, 1, 2, 7, 8])) (kout := i_Disk_append.ko2) (sh := i_Disk_append.sh2) (F := i_Disk_append.G2) (ops_ok (hE.gv _)) (by kernel_rfl) hh (fun R t K => by kernel_rfl)
theorem i_Disk_append.hok (hE : EOk Tryz.prog (i_Disk_append.E)) : HintOk Tryz.prog i_Disk_append.E (bodyOf Tryz.f104) (.n (.a) (.n (.a) (.n (.s (i_Disk_append.S2)) (.a)))) := HintOk.n1 (Q := (True) ∧ ((True) ∧ ((SumOk Tryz.prog i_Disk_append.E (cL (cR (cR (bodyOf Tryz.f104)))) (i_Disk_append.S2)) ∧ (True)))) (by kernel_rfl) ⟨trivial, ⟨trivial, ⟨(i_Disk_append.ok2 hE), trivial⟩⟩⟩
theorem i_Disk_append.hE : EOk Tryz.prog (i_Disk_append.E) := EOk.of ttOk (⟨i_Disk_fileAt.fok, ⟨i_Disk_used.fok, ⟨i_NameOK.fok, ⟨slices_Insert_SLi_File_i_File.fok, trivial⟩⟩⟩⟩)
theorem i_Disk_append.fok : FOk Tryz.prog 104 i_Disk_append.fi :=
  fokS (E := i_Disk_append.E) (wy := ⟨[[none]], [[none, some (kFile, true)], [], []], []⟩) (h := (fun gs => .n (.a) (.n (.a) (.n (.s (i_Disk_append.S2)) (.a))))) (G := fun t g => i_Disk_append.F (fun y0 y1 y2 => g (y0, y1, y2)) t.1.1 t.1.2.1 t.2.1 t.2.2.1) (by kernel_rfl) i_Disk_append.hE Tryz.func104 (by kernel_rfl) rfl (Nat.le_refl _) (fun t => HintOk.n1 (by kernel_rfl) (i_Disk_append.hok i_Disk_append.hE)) (fun t g => i_Disk_append_nat g t.1.1 t.1.2.1 t.2.1 t.2.2.1) (fun t => by kernel_rfl)
/-! __loop.example_g00220_impl.Disk_.crash -/
def i_Disk_crash.j1 {R : Type} (kkn : List Int → Nat → Int → Int → Int → Int → List (El kFile) → Option R) (keep : List Int) (i : Int) (f : Nat) (more : Int) (i1 : Int) (i2 : Int) (d : Int) (f1 : List (El kFile)) : Option R :=
  cond (decide (i < (List.length keep : Int))) (
    grd (gIx i (List.length keep)) <|
    kkn keep f (mx2 (0 : Int) (mn2 (rdE (.int .i64 : Kd) keep (Int.toNat i)) (IntKind.wrap .i64 ((ByteArray.size (rdE kFile f1 f).2.1 : Int) - (rdE kFile f1 f).2.2)))) i1 i2 d f1) (kkn keep f more i1 i2 d f1)
theorem i_Disk_crash.j1_nat {R S : Type} (g : R → Option S) (kkn : List Int → Nat → Int → Int → Int → Int → List (El kFile) → Option R) (keep : List Int) (i : Int) (f : Nat) (more : Int) (i1 : Int) (i2 : Int) (d : Int) (f1 : List (El kFile)) : i_Disk_crash.j1 (fun y0 y1 y2 y3 y4 y5 y6 => (kkn y0 y1 y2 y3 y4 y5 y6).bind g) keep i f more i1 i2 d f1 = (i_Disk_crash.j1 kkn keep i f more i1 i2 d f1).bind g := by
  simp only [i_Disk_crash.j1, grd_bind, cnd_bind, bnd_bind, non_bind]
def i_Disk_crash.l2 {R : Type} (kke0 : Int → List (El kFile) → Option R) : Nat → List Int → Int → Int → Int → List (El kFile) → Option R
  | 0, _, _, _, _, _ => none
  | n + 1, keep, i, i1, d, l =>
    cond (decide (i1 < i)) (
      grd (gIx i1 (List.length l)) <|
      i_Disk_crash.j1 (fun keep1 f more i2 i3 d1 f1 =>
        grd (gSl (0 : Int) (IntKind.wrap .i64 ((rdE kFile f1 f).2.2 + more)) (ByteArray.size (rdE kFile f1 f).2.1)) <|
        i_Disk_crash.l2 kke0 n keep1 i2 (IntKind.wrap .i64 (i3 + (1 : Int))) d1 (setE kFile (setE kFile f1 f ((rdE kFile f1 f).1, (cut (rdE kFile f1 f).2.1 (0 : Int) (IntKind.wrap .i64 ((rdE kFile f1 f).2.2 + more)), (rdE kFile f1 f).2.2))) f ((rdE kFile (setE kFile f1 f ((rdE kFile f1 f).1, (cut (rdE kFile f1 f).2.1 (0 : Int) (IntKind.wrap .i64 ((rdE kFile f1 f).2.2 + more)), (rdE kFile f1 f).2.2))) f).1, ((rdE kFile (setE kFile f1 f ((rdE kFile f1 f).1, (cut (rdE kFile f1 f).2.1 (0 : Int) (IntKind.wrap .i64 ((rdE kFile f1 f).2.2 + more)), (rdE kFile f1 f).2.2))) f).2.1, (ByteArray.size (rdE kFile (setE kFile f1 f ((rdE kFile f1 f).1, (cut (rdE kFile f1 f).2.1 (0 : Int) (IntKind.wrap .i64 ((rdE kFile f1 f).2.2 + more)), (rdE kFile f1 f).2.2))) f).2.1 : Int))))) keep i1 (Int.toNat i1) (0 : Int) i i1 d l) (kke0 d l)
theorem i_Disk_crash.l2_nat {R S : Type} (g : R → Option S) (kke0 : Int → List (El kFile) → Option R) : ∀ (n : Nat) (keep : List Int) (i : Int) (i1 : Int) (d : Int) (l : List (El kFile)), i_Disk_crash.l2 (fun y0 y1 => (kke0 y0 y1).bind g) n keep i i1 d l = (i_Disk_crash.l2 kke0 n keep i i1 d l).bind g := by
  intro n
  induction n with
  | zero => intros; rfl
  | succ n ih => intros; simp only [i_Disk_crash.l2, grd_bind, cnd_bind, bnd_bind, non_bind, ← i_Disk_crash.j1_nat, ih]
def i_Disk_crash.F {R : Type} (kk : Int → List (El kFile) → Option R) (d_Room : Int) (d_Files : List (El kFile)) (keep : List Int) : Option R :=
  i_Disk_crash.l2 (fun d l => kk d l) fuel keep (List.length d_Files : Int) (0 : Int) d_Room d_Files
theorem i_Disk_crash.F_nat {R S : Type} (g : R → Option S) (kk : Int → List (El kFile) → Option R) (d_Room : Int) (d_Files : List (El kFile)) (keep : List Int) : i_Disk_crash.F (fun y0 y1 => (kk y0 y1).bind g) d_Room d_Files keep = (i_Disk_crash.F kk d_Room d_Files keep).bind g := by
  simp only [i_Disk_crash.F, grd_bind, cnd_bind, bnd_bind, non_bind, ← i_Disk_crash.l2_nat]
def i_Disk_crash (d_Room : Int) (d_Files : List (El kFile)) (keep : List Int) : Option (Int × List (El kFile)) := i_Disk_crash.F (fun y0 y1 => some (y0, y1)) d_Room d_Files keep
theorem i_Disk_crash_nat {S : Type} (g : (Int × List (El kFile)) → Option S) (d_Room : Int) (d_Files : List (El kFile)) (keep : List Int) : i_Disk_crash.F (fun y0 y1 => g (y0, y1)) d_Room d_Files keep = (i_Disk_crash d_Room d_Files keep).bind g := i_Disk_crash.F_nat g (fun y0 y1 => some (y0, y1)) d_Room d_Files keep
def i_Disk_crash.out : (Int × List (El kFile)) → CRes := fun a => ⟨encL SV.enc [] (), [encL SC.enc [.int .i64, .own [] kFile true] (a.1, a.2, ()), encL SC.enc [] ()]⟩
def i_Disk_crash.ps : List PS := [.ptr [none, some (kFile, true)], .val [some ((.int .i64), false)]]
def i_Disk_crash.sA : List SA := [.ptr [.int .i64, .own [] kFile true], .v (.one (.slv [] (.int .i64)))]
def i_Disk_crash.fi : FI := FIs i_Disk_crash.sA (Int × List (El kFile)) (fun t => i_Disk_crash t.1.1 t.1.2.1 t.2.1) i_Disk_crash.out i_Disk_crash.ps
def i_Disk_crash.E : Env := ⟨tt, lkF [], 64, 1, [], []⟩
def i_Disk_crash.sh1 : SK := ⟨[.v (.one (.bptr 0 0)), .v (.one (.slv [2] (.int .i64))), .v (.one (.int .i64)), .v (.one (.eptr 1 3 0)), .v (.one (.int .i64)), .v (.one (.int .i64)), .v (.one (.int .i64))], [.box [.int .i64, .slo 1], .arr kFile [] true]⟩
def i_Disk_crash.sh1n : SK := ⟨[.v (.one (.bptr 0 0)), .v (.one (.slv [2] (.int .i64))), .v (.one (.eptr 1 3 0)), .v (.one (.int .i64)), .v (.one (.int .i64)), .v (.one (.int .i64))], [.box [.int .i64, .slo 1], .arr kFile [] true]⟩
def i_Disk_crash.ko1 : Ex → List CastAt × List Nat
  | .nrm => ([], [0, 1, 5, 6, 11, 12])
  | .ret => ([], [])
  | .ext i => ([], [])
def i_Disk_crash.G1 (R : Type) (t : i_Disk_crash.sh1.T) (K : Ex → Kp → Option R) : Option R := i_Disk_crash.j1 (fun y0 y1 y2 y3 y4 y5 y6 => K .nrm (SK.enc i_Disk_crash.sh1n (((), y0, y1, y2, y3, y4, ()), ((y5, (), ()), y6, ())))) t.1.2.1 t.1.2.2.1 t.1.2.2.2.1 t.1.2.2.2.2.1 t.1.2.2.2.2.2.1 t.1.2.2.2.2.2.2.1 t.2.1.1 t.2.2.1
def i_Disk_crash.S1 : Sum := ⟨([], [0, 1, 4, 5, 6, 11, 12]), sumF i_Disk_crash.sh1 (i_Disk_crash.G1), i_Disk_crash.ko1⟩
theorem i_Disk_crash.ok1 (hE : EOk Tryz.prog (i_Disk_crash.E)) : SumOk Tryz.prog i_Disk_crash.E (cL (cR (cR (cB (cL (cR (cR (cB (cB (cR (bodyOf Tryz.f105))))))))))) (i_Disk_crash.S1) := by
  have hh : HintOk Tryz.prog i_Disk_crash.E (cL (cR (cR (cB (cL (cR (cR (cB (cB (cR (bodyOf Tryz.f105))))))))))) (.a) := HintOk.n1 (Q := True) (by kernel_rfl) trivial
  exact sumS (kin := ([], [0, 1, 4, 5, 6, 11, 12])) (kout := i_Disk_crash.ko1) (sh := i_Disk_crash.sh1) (F := i_Disk_crash.G1) (ops_ok (hE.gv _)) (by kernel_rfl) hh (fun R t K => by kernel_rfl)
def i_Disk_crash.sh2 : SK := ⟨[.v (.one (.bptr 0 0)), .v (.one (.slv [2] (.int .i64))), .v (.one (.int .i64)), .v (.one (.int .i64))], [.box [.int .i64, .slo 1], .arr kFile [] true]⟩
def i_Disk_crash.sh2e0 : SK := ⟨[.v (.one (.bptr 0 0))], [.box [.int .i64, .slo 1], .arr kFile [] true]⟩
def i_Disk_crash.ko2 : Ex → List CastAt × List Nat
  | .nrm => ([], [])
  | .ret => ([], [])
  | .ext i => cond (Nat.beq i 0) ([], [0]) ([], [])
def i_Disk_crash.G2 (n : Nat) (R : Type) (t : i_Disk_crash.sh2.T) (K : Ex → Kp → Option R) : Option R := i_Disk_crash.l2 (fun y0 y1 => K (.ext 0) (SK.enc i_Disk_crash.sh2e0 (((), ()), ((y0, (), ()), y1, ())))) n t.1.2.1 t.1.2.2.1 t.1.2.2.2.1 t.2.1.1 t.2.2.1
def i_Disk_crash.S2 : Sum := ⟨([], [0, 1, 11, 12]), sumF i_Disk_crash.sh2 (i_Disk_crash.G2 fuel), i_Disk_crash.ko2⟩
theorem i_Disk_crash.ok2 (hE : EOk Tryz.prog (i_Disk_crash.E)) : SumOk Tryz.prog i_Disk_crash.E (cB (cR (bodyOf Tryz.f105))) (i_Disk_crash.S2) := by
  have hh : HintOk Tryz.prog i_Disk_crash.E (cB (cB (cR (bodyOf Tryz.f105)))) (.n (.a) (.n (.a) (.n (.b (.n (.a) (.n (.a) (.n (.s (i_Disk_crash.S1)) (.a))))) (.a)))) := HintOk.n1 (Q := (True) ∧ ((True) ∧ (((True) ∧ ((True) ∧ ((SumOk Tryz.prog i_Disk_crash.E (cL (cR (cR (cB (cL (cR (cR (cB (cB (cR (bodyOf Tryz.f105))))))))))) (i_Disk_crash.S1)) ∧ (True)))) ∧ (True)))) (by kernel_rfl) ⟨trivial, ⟨trivial, ⟨⟨trivial, ⟨trivial, ⟨(i_Disk_crash.ok1 hE), trivial⟩⟩⟩, trivial⟩⟩⟩
  have h := loopS (kin := ([], [0, 1, 11, 12])) (kout := i_Disk_crash.ko2) (sh := i_Disk_crash.sh2) (F := i_Disk_crash.G2) (ops_ok (hE.gv _)) (by kernel_rfl) hh (fun _ _ _ => rfl) (fun n R t K => by kernel_rfl) fuel
  exact HintOk.n1 (c := (cB (cR (bodyOf Tryz.f105)))) (h := .s (i_Disk_crash.S2)) (P := Tryz.prog) (E := i_Disk_crash.E) (by kernel_rfl) h
theorem i_Disk_crash.hok (hE : EOk Tryz.prog (i_Disk_crash.E)) : HintOk Tryz.prog i_Disk_crash.E (bodyOf Tryz.f105) (.n (.a) (.b (.s (i_Disk_crash.S2)))) := HintOk.n1 (Q := (True) ∧ (SumOk Tryz.prog i_Disk_crash.E (cB (cR (bodyOf Tryz.f105))) (i_Disk_crash.S2))) (by kernel_rfl) ⟨trivial, (i_Disk_crash.ok2 hE)⟩
theorem i_Disk_crash.hE : EOk Tryz.prog (i_Disk_crash.E) := EOk.of ttOk (trivial)
theorem i_Disk_crash.fok : FOk Tryz.prog 105 i_Disk_crash.fi :=
  fokS (E := i_Disk_crash.E) (wy := ⟨[], [[none, some (kFile, true)], []], []⟩) (h := (fun gs => .n (.a) (.b (.s (i_Disk_crash.S2))))) (G := fun t g => i_Disk_crash.F (fun y0 y1 => g (y0, y1)) t.1.1 t.1.2.1 t.2.1) (by kernel_rfl) i_Disk_crash.hE Tryz.func105 (by kernel_rfl) rfl (Nat.le_refl _) (fun t => HintOk.n1 (by kernel_rfl) (i_Disk_crash.hok i_Disk_crash.hE)) (fun t g => i_Disk_crash_nat g t.1.1 t.1.2.1 t.2.1) (fun t => by kernel_rfl)
/-! slices.Delete___loop.example_g00220_impl.File_loop.example_g00220_impl.File_ -/

/-! __loop.example_g00220_impl.Disk_.rename -/
def i_Disk_rename.F {R : Type} (kk : Int → Int → List (El kFile) → Option R) (d_Room : Int) (d_Files : List (El kFile)) (k_ : Int) (to_ : ByteArray) : Option R :=
  (i_NameOK to_).bind fun r =>
  cond (!r) (kk (1 : Int) d_Room d_Files) (
    grd (gIx k_ (List.length d_Files)) <|
    (slices_Delete_SLi_File_i_File d_Files k_ (IntKind.wrap .i64 (k_ + (1 : Int)))).bind fun r1 =>
    (i_Disk_fileAt d_Room r1 to_).bind fun r2 =>
    cond (r2.2) (
      grd (gIx r2.1 (List.length r1)) <|
      kk (0 : Int) d_Room (setE kFile r1 (Int.toNat r2.1) (to_, (rdE kFile d_Files (Int.toNat k_)).2))) (
      (slices_Insert_SLi_File_i_File r1 r2.1 [(to_, (rdE kFile d_Files (Int.toNat k_)).2)]).bind fun r3 =>
      kk (0 : Int) d_Room r3))
theorem i_Disk_rename.F_nat {R S : Type} (g : R → Option S) (kk : Int → Int → List (El kFile) → Option R) (d_Room : Int) (d_Files : List (El kFile)) (k_ : Int) (to_ : ByteArray) : i_Disk_rename.F (fun y0 y1 y2 => (kk y0 y1 y2).bind g) d_Room d_Files k_ to_ = (i_Disk_rename.F kk d_Room d_Files k_ to_).bind g := by
  simp only [i_Disk_rename.F, grd_bind, cnd_bind, bnd_bind, non_bind]
def i_Disk_rename (d_Room : Int) (d_Files : List (El kFile)) (k_ : Int) (to_ : ByteArray) : Option (Int × Int × List (El kFile)) := i_Disk_rename.F (fun y0 y1 y2 => some (y0, y1, y2)) d_Room d_Files k_ to_
theorem i_Disk_rename_nat {S : Type} (g : (Int × Int × List (El kFile)) → Option S) (d_Room : Int) (d_Files : List (El kFile)) (k_ : Int) (to_ : ByteArray) : i_Disk_rename.F (fun y0 y1 y2 => g (y0, y1, y2)) d_Room d_Files k_ to_ = (i_Disk_rename d_Room d_Files k_ to_).bind g := i_Disk_rename.F_nat g (fun y0 y1 y2 => some (y0, y1, y2)) d_Room d_Files k_ to_
def i_Disk_rename.out : (Int × Int × List (El kFile)) → CRes := fun a => ⟨encL SV.enc [.one (.int .i64)] (a.1, ()), [encL SC.enc [.int .i64, .own [] kFile true] (a.2.1, a.2.2, ()), encL SC.enc [] (), encL SC.enc [] ()]⟩
def i_Disk_rename.ps : List PS := [.ptr [none, some (kFile, true)], .val [none], .val [none]]
def i_Disk_rename.sA : List SA := [.ptr [.int .i64, .own [] kFile true], .v (.one (.int .i64)), .v (.one (.str))]
def i_Disk_rename.fi : FI := FIs i_Disk_rename.sA (Int × Int × List (El kFile)) (fun t => i_Disk_rename t.1.1 t.1.2.1 t.2.1 t.2.2.1) i_Disk_rename.out i_Disk_rename.ps
def i_Disk_rename.E : Env := ⟨tt, lkF [(76, i_Disk_fileAt.fi), (107, slices_Delete_SLi_File_i_File.fi), (114, i_NameOK.fi), (149, slices_Insert_SLi_File_i_File.fi)], 60, 1, [], []⟩
theorem i_Disk_rename.hok (hE : EOk Tryz.prog (i_Disk_rename.E)) : HintOk Tryz.prog i_Disk_rename.E (bodyOf Tryz.f106) (.a) := HintOk.n1 (Q := True) (by kernel_rfl) trivial
theorem i_Disk_rename.hE : EOk Tryz.prog (i_Disk_rename.E) := EOk.of ttOk (⟨i_Disk_fileAt.fok, ⟨slices_Delete_SLi_File_i_File.fok, ⟨i_NameOK.fok, ⟨slices_Insert_SLi_File_i_File.fok, trivial⟩⟩⟩⟩)
theorem i_Disk_rename.fok : FOk Tryz.prog 106 i_Disk_rename.fi :=
  fokS (E := i_Disk_rename.E) (wy := ⟨[[none]], [[none, some (kFile, true)], [], []], []⟩) (h := (fun gs => .a)) (G := fun t g => i_Disk_rename.F (fun y0 y1 y2 => g (y0, y1, y2)) t.1.1 t.1.2.1 t.2.1 t.2.2.1) (by kernel_rfl) i_Disk_rename.hE Tryz.func106 (by kernel_rfl) rfl (Nat.le_refl _) (fun t => HintOk.n1 (by kernel_rfl) (i_Disk_rename.hok i_Disk_rename.hE)) (fun t g => i_Disk_rename_nat g t.1.1 t.1.2.1 t.2.1 t.2.2.1) (fun t => by kernel_rfl)
/-! __loop.example_g00220_impl.Disk_.do -/
def i_Disk_do.F {R : Type} (kk : Int → Int → List (El kFile) → Option R) (d_Room : Int) (d_Files : List (El kFile)) (a_Kind : Int) (a_N : Int) (a_Name : ByteArray) (a_To : ByteArray) (a_Data : ByteArray) (a_Keep : List Int) : Option R :=
  cond (a_Kind == (1 : Int)) (
    (i_Disk_append d_Room d_Files a_Name a_Data).bind fun r =>
    kk r.1 r.2.1 r.2.2) (
    cond (a_Kind == (5 : Int)) (
      (i_Disk_crash d_Room d_Files a_Keep).bind fun r1 =>
      kk (0 : Int) r1.1 r1.2) (
      (i_within a_Kind (2 : Int) (6 : Int)).bind fun r2 =>
      cond (!r2) (kk (3 : Int) d_Room d_Files) (
        (i_Disk_fileAt d_Room d_Files a_Name).bind fun r3 =>
        cond (!r3.2) (kk (5 : Int) d_Room d_Files) (
          grd (gIx r3.1 (List.length d_Files)) <|
          cond (a_Kind == (2 : Int)) (
            kk (0 : Int) d_Room (setE kFile d_Files (Int.toNat r3.1) ((rdE kFile d_Files (Int.toNat r3.1)).1, ((rdE kFile d_Files (Int.toNat r3.1)).2.1, (ByteArray.size (rdE kFile d_Files (Int.toNat r3.1)).2.1 : Int))))) (
            cond (a_Kind == (3 : Int)) (
              (i_Disk_rename d_Room d_Files r3.1 a_To).bind fun r4 =>
              kk r4.1 r4.2.1 r4.2.2) (
              cond (a_Kind == (4 : Int)) (
                (slices_Delete_SLi_File_i_File d_Files r3.1 (IntKind.wrap .i64 (r3.1 + (1 : Int)))).bind fun r5 =>
                kk (0 : Int) d_Room r5) (
                cond (a_Kind == (6 : Int)) (
                  (i_within a_N (0 : Int) (ByteArray.size (rdE kFile d_Files (Int.toNat r3.1)).2.1 : Int)).bind fun r6 =>
                  cond (!r6) (kk (4 : Int) d_Room d_Files) (
                    grd (gSl (0 : Int) a_N (ByteArray.size (rdE kFile d_Files (Int.toNat r3.1)).2.1)) <|
                    kk (0 : Int) d_Room (setE kFile (setE kFile d_Files (Int.toNat r3.1) ((rdE kFile d_Files (Int.toNat r3.1)).1, (cut (rdE kFile d_Files (Int.toNat r3.1)).2.1 (0 : Int) a_N, (rdE kFile d_Files (Int.toNat r3.1)).2.2))) (Int.toNat r3.1) ((rdE kFile (setE kFile d_Files (Int.toNat r3.1) ((rdE kFile d_Files (Int.toNat r3.1)).1, (cut (rdE kFile d_Files (Int.toNat r3.1)).2.1 (0 : Int) a_N, (rdE kFile d_Files (Int.toNat r3.1)).2.2))) (Int.toNat r3.1)).1, ((rdE kFile (setE kFile d_Files (Int.toNat r3.1) ((rdE kFile d_Files (Int.toNat r3.1)).1, (cut (rdE kFile d_Files (Int.toNat r3.1)).2.1 (0 : Int) a_N, (rdE kFile d_Files (Int.toNat r3.1)).2.2))) (Int.toNat r3.1)).2.1, mn2 (rdE kFile d_Files (Int.toNat r3.1)).2.2 a_N))))) (kk (0 : Int) d_Room d_Files))))))))
theorem i_Disk_do.F_nat {R S : Type} (g : R → Option S) (kk : Int → Int → List (El kFile) → Option R) (d_Room : Int) (d_Files : List (El kFile)) (a_Kind : Int) (a_N : Int) (a_Name : ByteArray) (a_To : ByteArray) (a_Data : ByteArray) (a_Keep : List Int) : i_Disk_do.F (fun y0 y1 y2 => (kk y0 y1 y2).bind g) d_Room d_Files a_Kind a_N a_Name a_To a_Data a_Keep = (i_Disk_do.F kk d_Room d_Files a_Kind a_N a_Name a_To a_Data a_Keep).bind g := by
  simp only [i_Disk_do.F, grd_bind, cnd_bind, bnd_bind, non_bind]
def i_Disk_do (d_Room : Int) (d_Files : List (El kFile)) (a_Kind : Int) (a_N : Int) (a_Name : ByteArray) (a_To : ByteArray) (a_Data : ByteArray) (a_Keep : List Int) : Option (Int × Int × List (El kFile)) := i_Disk_do.F (fun y0 y1 y2 => some (y0, y1, y2)) d_Room d_Files a_Kind a_N a_Name a_To a_Data a_Keep
theorem i_Disk_do_nat {S : Type} (g : (Int × Int × List (El kFile)) → Option S) (d_Room : Int) (d_Files : List (El kFile)) (a_Kind : Int) (a_N : Int) (a_Name : ByteArray) (a_To : ByteArray) (a_Data : ByteArray) (a_Keep : List Int) : i_Disk_do.F (fun y0 y1 y2 => g (y0, y1, y2)) d_Room d_Files a_Kind a_N a_Name a_To a_Data a_Keep = (i_Disk_do d_Room d_Files a_Kind a_N a_Name a_To a_Data a_Keep).bind g := i_Disk_do.F_nat g (fun y0 y1 y2 => some (y0, y1, y2)) d_Room d_Files a_Kind a_N a_Name a_To a_Data a_Keep
def i_Disk_do.out : (Int × Int × List (El kFile)) → CRes := fun a => ⟨encL SV.enc [.one (.int .i64)] (a.1, ()), [encL SC.enc [.int .i64, .own [] kFile true] (a.2.1, a.2.2, ()), encL SC.enc [] ()]⟩
def i_Disk_do.ps : List PS := [.ptr [none, some (kFile, true)], .val [none, none, none, none, none, some ((.int .i64), false)]]
def i_Disk_do.sA : List SA := [.ptr [.int .i64, .own [] kFile true], .v (.agg [.int .i64, .int .i64, .str, .str, .str, .slv [] (.int .i64)])]
def i_Disk_do.fi : FI := FIs i_Disk_do.sA (Int × Int × List (El kFile)) (fun t => i_Disk_do t.1.1 t.1.2.1 t.2.1.1 t.2.1.2.1 t.2.1.2.2.1 t.2.1.2.2.2.1 t.2.1.2.2.2.2.1 t.2.1.2.2.2.2.2.1) i_Disk_do.out i_Disk_do.ps
def i_Disk_do.E : Env := ⟨tt, lkF [(67, i_within.fi), (76, i_Disk_fileAt.fi), (104, i_Disk_append.fi), (105, i_Disk_crash.fi), (106, i_Disk_rename.fi), (107, slices_Delete_SLi_File_i_File.fi)], 111, 1, [], []⟩
theorem i_Disk_do.hok (hE : EOk Tryz.prog (i_Disk_do.E)) : HintOk Tryz.prog i_Disk_do.E (bodyOf Tryz.f55) (.a) := HintOk.n1 (Q := True) (by kernel_rfl) trivial
theorem i_Disk_do.hE : EOk Tryz.prog (i_Disk_do.E) := EOk.of ttOk (⟨i_within.fok, ⟨i_Disk_fileAt.fok, ⟨i_Disk_append.fok, ⟨i_Disk_crash.fok, ⟨i_Disk_rename.fok, ⟨slices_Delete_SLi_File_i_File.fok, trivial⟩⟩⟩⟩⟩⟩)
theorem i_Disk_do.fok : FOk Tryz.prog 55 i_Disk_do.fi :=
  fokS (E := i_Disk_do.E) (wy := ⟨[[none]], [[none, some (kFile, true)], []], []⟩) (h := (fun gs => .a)) (G := fun t g => i_Disk_do.F (fun y0 y1 y2 => g (y0, y1, y2)) t.1.1 t.1.2.1 t.2.1.1 t.2.1.2.1 t.2.1.2.2.1 t.2.1.2.2.2.1 t.2.1.2.2.2.2.1 t.2.1.2.2.2.2.2.1) (by kernel_rfl) i_Disk_do.hE Tryz.func55 (by kernel_rfl) rfl (Nat.le_refl _) (fun t => HintOk.n1 (by kernel_rfl) (i_Disk_do.hok i_Disk_do.hE)) (fun t g => i_Disk_do_nat g t.1.1 t.1.2.1 t.2.1.1 t.2.1.2.1 t.2.1.2.2.1 t.2.1.2.2.2.1 t.2.1.2.2.2.2.1 t.2.1.2.2.2.2.2.1) (fun t => by kernel_rfl)
/-! strings.Trim -/
theorem trim_ex : ∃ f : (ByteArray → ByteArray → ByteArray) × (ByteArray → ByteArray → Bool), f.1 = (fun s c => ⟨(Lib.trimS s.data.toList c.data.toList).toArray⟩) ∧ f.2 = (fun s c => decide (s.size ≤ 9223372036854775807) && (decide (c.size < 4294967281) && c.data.toList.all (fun b => decide (b.toNat < 128)))) := ⟨(_, _), rfl, rfl⟩
/-- Chosen, so that the kernel does not unfold them. -/
noncomputable def trimS : ByteArray → ByteArray → ByteArray := (Classical.choose trim_ex).1
noncomputable def gTrim : ByteArray → ByteArray → Bool := (Classical.choose trim_ex).2
theorem trimS_eq (s c : ByteArray) : trimS s c = ⟨(Lib.trimS s.data.toList c.data.toList).toArray⟩ := congrFun (congrFun (Classical.choose_spec trim_ex).1 s) c
theorem gTrim_eq (s c : ByteArray) : gTrim s c = (decide (s.size ≤ 9223372036854775807) && (decide (c.size < 4294967281) && c.data.toList.all (fun b => decide (b.toNat < 128)))) := congrFun (congrFun (Classical.choose_spec trim_ex).2 s) c
noncomputable def strings_Trim.F {R : Type} (kk : ByteArray → Option R) (s : ByteArray) (c : ByteArray) : Option R := grd (gTrim s c) <| kk (trimS s c)
theorem strings_Trim_ex : ∃ f : ByteArray → ByteArray → Option ByteArray, f = fun s n => strings_Trim.F (fun y0 => some y0) s n := ⟨_, rfl⟩
noncomputable def strings_Trim : ByteArray → ByteArray → Option ByteArray := Classical.choose strings_Trim_ex
theorem strings_Trim_eq (s c : ByteArray) : strings_Trim s c = strings_Trim.F (fun y0 => some y0) s c := congrFun (congrFun (Classical.choose_spec strings_Trim_ex) s) c
def strings_Trim.out : (ByteArray) → CRes := fun a => ⟨encL SV.enc [.one (.str)] (a, ()), [encL SC.enc [] (), encL SC.enc [] ()]⟩
def strings_Trim.ps : List PS := [.val [none], .val [none]]
def strings_Trim.sA : List SA := [.v (.one (.str)), .v (.one (.str))]
noncomputable def strings_Trim.fi : FI := FIs strings_Trim.sA (ByteArray) (fun t => strings_Trim t.1 t.2.1) strings_Trim.out strings_Trim.ps
theorem strings_Trim.fok : FOk Tryz.prog 152 strings_Trim.fi := by
  refine fok_ext ⟨_, _, Tryz.func152, by kernel_rfl, rfl⟩ (by kernel_rfl) (fun a => [.str a]) (fun a => by kernel_rfl) (fun a => by kernel_rfl) (fun t a h w => ?_)
  obtain ⟨s, c, u⟩ := t
  have h' : grd (gTrim s c) (some (trimS s c)) = some a := (strings_Trim_eq s c).symm.trans h
  cases hg : gTrim s c with
  | false => rw [hg] at h'; cases h'
  | true =>
    rw [hg] at h'
    obtain rfl := Option.some.inj h'
    rw [gTrim_eq, Bool.and_eq_true, Bool.and_eq_true, decide_eq_true_iff, decide_eq_true_iff] at hg
    obtain ⟨h0, h1, h2⟩ := hg
    rw [trimS_eq]
    exact Any.strings_Trim_laid Tryz.lays160 (by kernel_rfl) s c w h0 h1 (ascii_of_all h2)
/-! loop.example_g00220_impl.segmentOf -/
def i_segmentOf.F {R : Type} (kk : Int → Option R) (name : ByteArray) : Option R :=
  cond ((ByteArray.size name : Int) != (3 : Int)) (kk (0 : Int)) (
    grd (gIx (0 : Int) (ByteArray.size name)) <|
    cond ((byteAt name (0 : Int)) != (115 : Int)) (kk (0 : Int)) (
      grd (gSl (1 : Int) (ByteArray.size name : Int) (ByteArray.size name)) <|
      (strings_Trim (cut name (1 : Int) (ByteArray.size name : Int)) (⟨#[48, 49, 50, 51, 52, 53, 54, 55, 56, 57]⟩ : ByteArray)).bind fun r =>
      cond (!(sEq r ByteArray.empty)) (kk (0 : Int)) (
        grd (gIx (1 : Int) (ByteArray.size name)) <|
        grd (gIx (2 : Int) (ByteArray.size name)) <|
        kk (IntKind.wrap .i64 ((IntKind.wrap .i64 ((IntKind.wrap .i64 (IntKind.wrap .u8 ((byteAt name (1 : Int)) - (48 : Int)))) * (10 : Int))) + (IntKind.wrap .i64 (IntKind.wrap .u8 ((byteAt name (2 : Int)) - (48 : Int)))))))))
theorem i_segmentOf.F_nat {R S : Type} (g : R → Option S) (kk : Int → Option R) (name : ByteArray) : i_segmentOf.F (fun y0 => (kk y0).bind g) name = (i_segmentOf.F kk name).bind g := by
  simp only [i_segmentOf.F, grd_bind, cnd_bind, bnd_bind, non_bind]
def i_segmentOf (name : ByteArray) : Option Int := i_segmentOf.F (fun y0 => some y0) name
theorem i_segmentOf_nat {S : Type} (g : Int → Option S) (name : ByteArray) : i_segmentOf.F (fun y0 => g y0) name = (i_segmentOf name).bind g := i_segmentOf.F_nat g (fun y0 => some y0) name
def i_segmentOf.out : Int → CRes := fun a => ⟨encL SV.enc [.one (.int .i64)] (a, ()), [encL SC.enc [] ()]⟩
def i_segmentOf.ps : List PS := [.val [none]]
def i_segmentOf.sA : List SA := [.v (.one (.str))]
def i_segmentOf.fi : FI := FIs i_segmentOf.sA (Int) (fun t => i_segmentOf t.1) i_segmentOf.out i_segmentOf.ps
def i_segmentOf.E : Env := ⟨tt, lkF [(152, strings_Trim.fi)], 27, 0, [], []⟩
theorem i_segmentOf.hok (hE : EOk Tryz.prog (i_segmentOf.E)) : HintOk Tryz.prog i_segmentOf.E (bodyOf Tryz.f115) (.a) := HintOk.n1 (Q := True) (by kernel_rfl) trivial
theorem i_segmentOf.hE : EOk Tryz.prog (i_segmentOf.E) := EOk.of ttOk (⟨strings_Trim.fok, trivial⟩)
theorem i_segmentOf.fok : FOk Tryz.prog 115 i_segmentOf.fi :=
  fokS (E := i_segmentOf.E) (wy := ⟨[[none]], [[]], []⟩) (h := (fun gs => .a)) (G := fun t g => i_segmentOf.F (fun y0 => g y0) t.1) (by kernel_rfl) i_segmentOf.hE Tryz.func115 (by kernel_rfl) rfl (Nat.le_refl _) (fun t => HintOk.n1 (by kernel_rfl) (i_segmentOf.hok i_segmentOf.hE)) (fun t g => i_segmentOf_nat g t.1) (fun t => by kernel_rfl)
end
end Go.Proofs.YtaanadbpnmcbcaaGreatDoorA
