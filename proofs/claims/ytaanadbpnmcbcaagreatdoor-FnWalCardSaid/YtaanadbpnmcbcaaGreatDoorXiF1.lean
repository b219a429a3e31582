/-
  Functions of the program, and that the small machine's runs are these. No condition.
  Printed by wip/amp/main.py (a session's own program) out of Lean's print of the program; Lean's kernel checks it.
-/
import Derived.Test.YtaanadbpnmcbcaaGreatDoorXiF0
namespace Go.Proofs.YtaanadbpnmcbcaaGreatDoorA
open Go
noncomputable section
set_option linter.unusedVariables false
set_option linter.unusedSimpArgs false
set_option maxRecDepth 100000
def gq70.F {R : Type} (kk : List (El kka9e) → Int → Option R) (d_Room : Int) (d_Files : List (El kFile)) (data : ByteArray) : Option R :=
 (gq67 (ByteArray.size data : Int) (1 : Int) (110 : Int)).bind fun r =>
 cond (!r) (kk [] (4 : Int)) (
  (gq66 d_Room d_Files).bind fun r1 =>
  cond (r1.2.2.2.2 != (0 : Int)) (kk [] r1.2.2.2.2) (
   cond (decide (r1.2.2.2.1 > (0 : Int))) (kk [] (16 : Int)) (
    cond (decide ((List.length r1.2.1 : Int) ≥ (60 : Int))) (kk [] (6 : Int)) (
     (gq75 r1.1 r1.2.1 r1.2.2.1 r1.2.2.2.1).bind fun r2 =>
     (gq68 (99 : Int)).bind fun r3 =>
     cond (sEq r2 r3) (kk [] (6 : Int)) (
      (i_plan d_Room d_Files r1.1 r1.2.1 r1.2.2.1 r1.2.2.2.1 data).bind fun r4 =>
      kk r4 (0 : Int))))))
theorem gq70.F_nat {R S : Type} (g : R → Option S) (kk : List (El kka9e) → Int → Option R) (d_Room d_Files data) : gq70.F (fun y0 y1 => (kk y0 y1).bind g) d_Room d_Files data = (gq70.F kk d_Room d_Files data).bind g := by
 simp only [gq70.F, grd_bind, cnd_bind, bnd_bind, non_bind]
def gq70 (d_Room : Int) (d_Files : List (El kFile)) (data : ByteArray) : Option (List (El kka9e) × Int) := gq70.F (fun y0 y1 => some (y0, y1)) d_Room d_Files data
def gq70.out : (List (El kka9e) × Int) → CRes := fun a => ⟨encL SV.enc [.one (.own [] kka9e true), .one (.int .i64)] (a.1, a.2, ()), [encL SC.enc [] (), encL SC.enc [] ()]⟩
def gq70.ps : List PS := [.val [none, some (kFile, false)], .val [none]]
def gq70.sA : List SA := [.v (.agg [.int .i64, .slv [] kFile]), .v (.one (.str))]
def gq70.fi : FI := FIs gq70.sA (List (El kka9e) × Int) (fun t => gq70 t.1.1 t.1.2.1 t.2.1) gq70.out gq70.ps
def gq70.E : Env := ⟨tt, lkF [(66, gq66.fi), (67, gq67.fi), (68, gq68.fi), (75, gq75.fi), (119, i_plan.fi)], 40, 0, [], []⟩
theorem gq70.hok (hE : EOk Tryz.prog (gq70.E)) : HintOk Tryz.prog gq70.E (bodyOf Tryz.f70) (.a) := HintOk.n1 (Q := True) (by kernel_rfl) trivial
theorem gq70.hE : EOk Tryz.prog (gq70.E) := EOk.of ttOk (⟨gq66.fok, ⟨gq67.fok, ⟨gq68.fok, ⟨gq75.fok, ⟨i_plan.fok, trivial⟩⟩⟩⟩⟩)
theorem gq70.fok : FOk Tryz.prog 70 gq70.fi :=
 fokS (E := gq70.E) (wy := ⟨[[some (kka9e, true)], [none]], [[], []], []⟩) (h := (fun gs => .a)) (G := fun t g => gq70.F (fun y0 y1 => g (y0, y1)) t.1.1 t.1.2.1 t.2.1) (by kernel_rfl) gq70.hE Tryz.func70 (by kernel_rfl) rfl (Nat.le_refl _) (fun t => HintOk.n1 (by kernel_rfl) (gq70.hok gq70.hE)) (fun t g => gq70.F_nat g (fun y0 y1 => some (y0, y1)) _ _ _) (fun t => by kernel_rfl)
def gq25.F {R : Type} (kk : List (El kka9e) → Int → Option R) (d_Room : Int) (d_Files : List (El kFile)) (data : ByteArray) : Option R :=
 (gq69 [data]).bind fun r =>
 cond (!r) (kk [] (2 : Int)) (
  (gq65 d_Room d_Files).bind fun r1 =>
  cond (!r1) (kk [] (1 : Int)) (
   (gq70 d_Room d_Files data).bind fun r2 =>
   kk r2.1 r2.2))
theorem gq25.F_nat {R S : Type} (g : R → Option S) (kk : List (El kka9e) → Int → Option R) (d_Room d_Files data) : gq25.F (fun y0 y1 => (kk y0 y1).bind g) d_Room d_Files data = (gq25.F kk d_Room d_Files data).bind g := by
 simp only [gq25.F, grd_bind, cnd_bind, bnd_bind, non_bind]
def gq25 (d_Room : Int) (d_Files : List (El kFile)) (data : ByteArray) : Option (List (El kka9e) × Int) := gq25.F (fun y0 y1 => some (y0, y1)) d_Room d_Files data
def gq25.out : (List (El kka9e) × Int) → CRes := fun a => ⟨encL SV.enc [.one (.own [] kka9e true), .one (.int .i64)] (a.1, a.2, ()), [encL SC.enc [] (), encL SC.enc [] ()]⟩
def gq25.ps : List PS := [.val [none, some (kFile, false)], .val [none]]
def gq25.sA : List SA := [.v (.agg [.int .i64, .slv [] kFile]), .v (.one (.str))]
def gq25.fi : FI := FIs gq25.sA (List (El kka9e) × Int) (fun t => gq25 t.1.1 t.1.2.1 t.2.1) gq25.out gq25.ps
def gq25.E : Env := ⟨tt, lkF [(65, gq65.fi), (69, gq69.fi), (70, gq70.fi)], 20, 0, [], []⟩
theorem gq25.hok (hE : EOk Tryz.prog (gq25.E)) : HintOk Tryz.prog gq25.E (bodyOf Tryz.f25) (.a) := HintOk.n1 (Q := True) (by kernel_rfl) trivial
theorem gq25.hE : EOk Tryz.prog (gq25.E) := EOk.of ttOk (⟨gq65.fok, ⟨gq69.fok, ⟨gq70.fok, trivial⟩⟩⟩)
theorem gq25.fok : FOk Tryz.prog 25 gq25.fi :=
 fokS (E := gq25.E) (wy := ⟨[[some (kka9e, true)], [none]], [[], []], []⟩) (h := (fun gs => .a)) (G := fun t g => gq25.F (fun y0 y1 => g (y0, y1)) t.1.1 t.1.2.1 t.2.1) (by kernel_rfl) gq25.hE Tryz.func25 (by kernel_rfl) rfl (Nat.le_refl _) (fun t => HintOk.n1 (by kernel_rfl) (gq25.hok gq25.hE)) (fun t g => gq25.F_nat g (fun y0 y1 => some (y0, y1)) _ _ _) (fun t => by kernel_rfl)
def gq158.F {R : Type} (kk : Bool → Option R) (c : Int) : Option R :=
 cond (decide (c ≥ (48 : Int))) (kk (decide (c ≤ (57 : Int)))) (kk false)
theorem gq158.F_nat {R S : Type} (g : R → Option S) (kk : Bool → Option R) (c) : gq158.F (fun y0 => (kk y0).bind g) c = (gq158.F kk c).bind g := by
 simp only [gq158.F, grd_bind, cnd_bind, bnd_bind, non_bind]
def gq158 (c : Int) : Option Bool := gq158.F (fun y0 => some y0) c
def gq158.out : Bool → CRes := fun a => ⟨encL SV.enc [.one (.bool)] (a, ()), [encL SC.enc [] ()]⟩
def gq158.ps : List PS := [.val [none]]
def gq158.sA : List SA := [.v (.one (.int .u8))]
def gq158.fi : FI := FIs gq158.sA (Bool) (fun t => gq158 t.1) gq158.out gq158.ps
def gq158.E : Env := ⟨tt, lkF [], 9, 0, [], []⟩
theorem gq158.hok (hE : EOk Tryz.prog (gq158.E)) : HintOk Tryz.prog gq158.E (bodyOf Tryz.f158) (.a) := HintOk.n1 (Q := True) (by kernel_rfl) trivial
theorem gq158.hE : EOk Tryz.prog (gq158.E) := EOk.of ttOk (trivial)
theorem gq158.fok : FOk Tryz.prog 158 gq158.fi :=
 fokS (E := gq158.E) (wy := ⟨[[none]], [[]], []⟩) (h := (fun gs => .a)) (G := fun t g => gq158.F (fun y0 => g y0) t.1) (by kernel_rfl) gq158.hE Tryz.func158 (by kernel_rfl) rfl (Nat.le_refl _) (fun t => HintOk.n1 (by kernel_rfl) (gq158.hok gq158.hE)) (fun t g => gq158.F_nat g (fun y0 => some y0) _) (fun t => by kernel_rfl)
def gq177.F {R : Type} (kk : Bool → Option R) (c : Int) : Option R :=
 cond (decide (c ≥ (97 : Int))) (
  cond (decide (c ≤ (122 : Int))) (kk true) (
   cond (decide (c ≥ (65 : Int))) (cond (decide (c ≤ (90 : Int))) (kk true) (kk (c == (95 : Int)))) (kk (c == (95 : Int))))) (
  cond (decide (c ≥ (65 : Int))) (cond (decide (c ≤ (90 : Int))) (kk true) (kk (c == (95 : Int)))) (kk (c == (95 : Int))))
theorem gq177.F_nat {R S : Type} (g : R → Option S) (kk : Bool → Option R) (c) : gq177.F (fun y0 => (kk y0).bind g) c = (gq177.F kk c).bind g := by
 simp only [gq177.F, grd_bind, cnd_bind, bnd_bind, non_bind]
def gq177 (c : Int) : Option Bool := gq177.F (fun y0 => some y0) c
def gq177.out : Bool → CRes := fun a => ⟨encL SV.enc [.one (.bool)] (a, ()), [encL SC.enc [] ()]⟩
def gq177.ps : List PS := [.val [none]]
def gq177.sA : List SA := [.v (.one (.int .u8))]
def gq177.fi : FI := FIs gq177.sA (Bool) (fun t => gq177 t.1) gq177.out gq177.ps
def gq177.E : Env := ⟨tt, lkF [], 21, 0, [], []⟩
theorem gq177.hok (hE : EOk Tryz.prog (gq177.E)) : HintOk Tryz.prog gq177.E (bodyOf Tryz.f177) (.a) := HintOk.n1 (Q := True) (by kernel_rfl) trivial
theorem gq177.hE : EOk Tryz.prog (gq177.E) := EOk.of ttOk (trivial)
theorem gq177.fok : FOk Tryz.prog 177 gq177.fi :=
 fokS (E := gq177.E) (wy := ⟨[[none]], [[]], []⟩) (h := (fun gs => .a)) (G := fun t g => gq177.F (fun y0 => g y0) t.1) (by kernel_rfl) gq177.hE Tryz.func177 (by kernel_rfl) rfl (Nat.le_refl _) (fun t => HintOk.n1 (by kernel_rfl) (gq177.hok gq177.hE)) (fun t g => gq177.F_nat g (fun y0 => some y0) _) (fun t => by kernel_rfl)
def gq156.l1 {R : Type} (kke0 : Option R) (kkr : Bool → Option R) : Nat → ByteArray → Int → Option R
 | 0, _, _ => none
 | n + 1, t_, i =>
  cond (decide (i < (ByteArray.size t_ : Int))) (
   grd (gIx i (ByteArray.size t_)) <|
   (gq177 (byteAt t_ i)).bind fun r =>
   cond (!r) (
    grd (gIx i (ByteArray.size t_)) <|
    (gq158 (byteAt t_ i)).bind fun r1 =>
    cond (!r1) (kkr false) (gq156.l1 kke0 kkr n t_ (IntKind.wrap .i64 (i + (1 : Int))))) (gq156.l1 kke0 kkr n t_ (IntKind.wrap .i64 (i + (1 : Int))))) (kke0)
theorem gq156.l1_nat {R S : Type} (g : R → Option S) (kke0 : Option R) (kkr : Bool → Option R) : ∀ n t_ i, gq156.l1 (kke0.bind g) (fun y0 => (kkr y0).bind g) n t_ i = (gq156.l1 kke0 kkr n t_ i).bind g := by
 intro n
 induction n with
 | zero => intros; rfl
 | succ n ih => intros; simp only [gq156.l1, grd_bind, cnd_bind, bnd_bind, non_bind, ih]
def gq156.F {R : Type} (kk : Bool → Option R) (t_ : ByteArray) : Option R :=
 cond (decide ((ByteArray.size t_ : Int) < (1 : Int))) (kk false) (
  cond (decide ((ByteArray.size t_ : Int) > (40 : Int))) (kk false) (
   grd (gIx (0 : Int) (ByteArray.size t_)) <|
   (gq177 (byteAt t_ (0 : Int))).bind fun r =>
   cond (!r) (kk false) (gq156.l1 (kk true) (fun b => kk b) fuel t_ (1 : Int))))
theorem gq156.F_nat {R S : Type} (g : R → Option S) (kk : Bool → Option R) (t_) : gq156.F (fun y0 => (kk y0).bind g) t_ = (gq156.F kk t_).bind g := by
 simp only [gq156.F, grd_bind, cnd_bind, bnd_bind, non_bind, ← gq156.l1_nat]
def gq156 (t_ : ByteArray) : Option Bool := gq156.F (fun y0 => some y0) t_
def gq156.out : Bool → CRes := fun a => ⟨encL SV.enc [.one (.bool)] (a, ()), [encL SC.enc [] ()]⟩
def gq156.ps : List PS := [.val [none]]
def gq156.sA : List SA := [.v (.one (.str))]
def gq156.fi : FI := FIs gq156.sA (Bool) (fun t => gq156 t.1) gq156.out gq156.ps
def gq156.E : Env := ⟨tt, lkF [(158, gq158.fi), (177, gq177.fi)], 36, 0, [], []⟩
def gq156.sh1 : SK := ⟨[.v (.one (.str)), .v (.one (.int .i64))], []⟩
def gq156.sh1e0 : SK := ⟨[], []⟩
def gq156.sh1r : SK := ⟨[.v (.one (.bool))], []⟩
def gq156.ko1 : Ex → List CastAt × List Nat
 | .nrm => ([], [])
 | .ret => ([], [2])
 | .ext i => cond (Nat.beq i 0) ([], []) ([], [])
def gq156.G1 (n : Nat) (R : Type) (t : gq156.sh1.T) (K : Ex → Kp → Option R) : Option R := gq156.l1 (K (.ext 0) (SK.enc gq156.sh1e0 ((), ()))) (fun y0 => K .ret (SK.enc gq156.sh1r ((y0, ()), ()))) n t.1.1 t.1.2.1
def gq156.S1 : Sum := ⟨([], [0, 3]), sumF gq156.sh1 (gq156.G1 fuel), gq156.ko1⟩
theorem gq156.ok1 (hE : EOk Tryz.prog (gq156.E)) : SumOk Tryz.prog gq156.E (cB (cR (cL (cR (cR (bodyOf Tryz.f156)))))) (gq156.S1) := by
 have hh : HintOk Tryz.prog gq156.E (cB (cB (cR (cL (cR (cR (bodyOf Tryz.f156))))))) (.a) := HintOk.n1 (Q := True) (by kernel_rfl) trivial
 have h := loopS (kin := ([], [0, 3])) (kout := gq156.ko1) (sh := gq156.sh1) (F := gq156.G1) (ops_ok (hE.gv _)) (by kernel_rfl) hh (fun _ _ _ => rfl) (fun n R t K => by kernel_rfl) fuel
 exact HintOk.n1 (c := (cB (cR (cL (cR (cR (bodyOf Tryz.f156))))))) (h := .s (gq156.S1)) (P := Tryz.prog) (E := gq156.E) (by kernel_rfl) h
theorem gq156.hok (hE : EOk Tryz.prog (gq156.E)) : HintOk Tryz.prog gq156.E (bodyOf Tryz.f156) (.n (.a) (.n (.a) (.n (.n (.a) (.b (.s (gq156.S1)))) (.a)))) := HintOk.n1 (Q := (True) ∧ ((True) ∧ (((True) ∧ (SumOk Tryz.prog gq156.E (cB (cR (cL (cR (cR (bodyOf Tryz.f156)))))) (gq156.S1))) ∧ (True)))) (by kernel_rfl) ⟨trivial, ⟨trivial, ⟨⟨trivial, (gq156.ok1 hE)⟩, trivial⟩⟩⟩
theorem gq156.hE : EOk Tryz.prog (gq156.E) := EOk.of ttOk (⟨gq158.fok, ⟨gq177.fok, trivial⟩⟩)
theorem gq156.fok : FOk Tryz.prog 156 gq156.fi :=
 fokS (E := gq156.E) (wy := ⟨[[none]], [[]], []⟩) (h := (fun gs => .n (.a) (.n (.a) (.n (.n (.a) (.b (.s (gq156.S1)))) (.a))))) (G := fun t g => gq156.F (fun y0 => g y0) t.1) (by kernel_rfl) gq156.hE Tryz.func156 (by kernel_rfl) rfl (Nat.le_refl _) (fun t => HintOk.n1 (by kernel_rfl) (gq156.hok gq156.hE)) (fun t g => gq156.F_nat g (fun y0 => some y0) _) (fun t => by kernel_rfl)
def gq120.F {R : Type} (kk : Bool → Option R) (t_ : ByteArray) : Option R :=
 (gq156 t_).bind fun r =>
 kk r
theorem gq120.F_nat {R S : Type} (g : R → Option S) (kk : Bool → Option R) (t_) : gq120.F (fun y0 => (kk y0).bind g) t_ = (gq120.F kk t_).bind g := by
 simp only [gq120.F, grd_bind, cnd_bind, bnd_bind, non_bind]
def gq120 (t_ : ByteArray) : Option Bool := gq120.F (fun y0 => some y0) t_
def gq120.out : Bool → CRes := fun a => ⟨encL SV.enc [.one (.bool)] (a, ()), [encL SC.enc [] ()]⟩
def gq120.ps : List PS := [.val [none]]
def gq120.sA : List SA := [.v (.one (.str))]
def gq120.fi : FI := FIs gq120.sA (Bool) (fun t => gq120 t.1) gq120.out gq120.ps
def gq120.E : Env := ⟨tt, lkF [(156, gq156.fi)], 5, 0, [], []⟩
theorem gq120.hok (hE : EOk Tryz.prog (gq120.E)) : HintOk Tryz.prog gq120.E (bodyOf Tryz.f120) (.a) := HintOk.n1 (Q := True) (by kernel_rfl) trivial
theorem gq120.hE : EOk Tryz.prog (gq120.E) := EOk.of ttOk (⟨gq156.fok, trivial⟩)
theorem gq120.fok : FOk Tryz.prog 120 gq120.fi :=
 fokS (E := gq120.E) (wy := ⟨[[none]], [[]], []⟩) (h := (fun gs => .a)) (G := fun t g => gq120.F (fun y0 => g y0) t.1) (by kernel_rfl) gq120.hE Tryz.func120 (by kernel_rfl) rfl (Nat.le_refl _) (fun t => HintOk.n1 (by kernel_rfl) (gq120.hok gq120.hE)) (fun t g => gq120.F_nat g (fun y0 => some y0) _) (fun t => by kernel_rfl)
def gq121.l1 {R : Type} (kke0 : Int → Option R) : Nat → Int → Int → Int → List (El kFile) → Option R
 | 0, _, _, _, _ => none
 | n + 1, n_, i, d, d1 =>
  cond (decide (i < (List.length d1 : Int))) (
   grd (gIx i (List.length d1)) <|
   gq121.l1 kke0 n (IntKind.wrap .i64 (n_ + (ByteArray.size (rdE kFile d1 (Int.toNat i)).2.1 : Int))) (IntKind.wrap .i64 (i + (1 : Int))) d d1) (kke0 n_)
theorem gq121.l1_nat {R S : Type} (g : R → Option S) (kke0 : Int → Option R) : ∀ n n_ i d d1, gq121.l1 (fun y0 => (kke0 y0).bind g) n n_ i d d1 = (gq121.l1 kke0 n n_ i d d1).bind g := by
 intro n
 induction n with
 | zero => intros; rfl
 | succ n ih => intros; simp only [gq121.l1, grd_bind, cnd_bind, bnd_bind, non_bind, ih]
def gq121.F {R : Type} (kk : Int → Option R) (d_Room : Int) (d_Files : List (El kFile)) : Option R :=
 gq121.l1 (fun n_ => kk n_) fuel (0 : Int) (0 : Int) d_Room d_Files
theorem gq121.F_nat {R S : Type} (g : R → Option S) (kk : Int → Option R) (d_Room d_Files) : gq121.F (fun y0 => (kk y0).bind g) d_Room d_Files = (gq121.F kk d_Room d_Files).bind g := by
 simp only [gq121.F, grd_bind, cnd_bind, bnd_bind, non_bind, ← gq121.l1_nat]
def gq121 (d_Room : Int) (d_Files : List (El kFile)) : Option Int := gq121.F (fun y0 => some y0) d_Room d_Files
def gq121.out : Int → CRes := fun a => ⟨encL SV.enc [.one (.int .i64)] (a, ()), [encL SC.enc [] ()]⟩
def gq121.ps : List PS := [.val [none, some (kFile, false)]]
def gq121.sA : List SA := [.v (.agg [.int .i64, .slv [] kFile])]
def gq121.fi : FI := FIs gq121.sA (Int) (fun t => gq121 t.1.1 t.1.2.1) gq121.out gq121.ps
def gq121.E : Env := ⟨tt, lkF [], 22, 0, [], []⟩
def gq121.sh1 : SK := ⟨[.v (.one (.bptr 0 0)), .v (.one (.int .i64)), .v (.one (.int .i64))], [.box [.int .i64, .slv [1] kFile]]⟩
def gq121.sh1e0 : SK := ⟨[.v (.one (.int .i64))], []⟩
def gq121.ko1 : Ex → List CastAt × List Nat
 | .nrm => ([], [])
 | .ret => ([], [])
 | .ext i => cond (Nat.beq i 0) ([], [3]) ([], [])
def gq121.G1 (n : Nat) (R : Type) (t : gq121.sh1.T) (K : Ex → Kp → Option R) : Option R := gq121.l1 (fun y0 => K (.ext 0) (SK.enc gq121.sh1e0 ((y0, ()), ()))) n t.1.2.1 t.1.2.2.1 t.2.1.1 t.2.1.2.1
def gq121.S1 : Sum := ⟨([], [1, 3, 4]), sumF gq121.sh1 (gq121.G1 fuel), gq121.ko1⟩
theorem gq121.ok1 (hE : EOk Tryz.prog (gq121.E)) : SumOk Tryz.prog gq121.E (cB (cR (cL (cR (cR (bodyOf Tryz.f121)))))) (gq121.S1) := by
 have hh : HintOk Tryz.prog gq121.E (cB (cB (cR (cL (cR (cR (bodyOf Tryz.f121))))))) (.a) := HintOk.n1 (Q := True) (by kernel_rfl) trivial
 have h := loopS (kin := ([], [1, 3, 4])) (kout := gq121.ko1) (sh := gq121.sh1) (F := gq121.G1) (ops_ok (hE.gv _)) (by kernel_rfl) hh (fun _ _ _ => rfl) (fun n R t K => by kernel_rfl) fuel
 exact HintOk.n1 (c := (cB (cR (cL (cR (cR (bodyOf Tryz.f121))))))) (h := .s (gq121.S1)) (P := Tryz.prog) (E := gq121.E) (by kernel_rfl) h
theorem gq121.hok (hE : EOk Tryz.prog (gq121.E)) : HintOk Tryz.prog gq121.E (bodyOf Tryz.f121) (.n (.a) (.n (.a) (.n (.n (.a) (.b (.s (gq121.S1)))) (.a)))) := HintOk.n1 (Q := (True) ∧ ((True) ∧ (((True) ∧ (SumOk Tryz.prog gq121.E (cB (cR (cL (cR (cR (bodyOf Tryz.f121)))))) (gq121.S1))) ∧ (True)))) (by kernel_rfl) ⟨trivial, ⟨trivial, ⟨⟨trivial, (gq121.ok1 hE)⟩, trivial⟩⟩⟩
theorem gq121.hE : EOk Tryz.prog (gq121.E) := EOk.of ttOk (trivial)
theorem gq121.fok : FOk Tryz.prog 121 gq121.fi :=
 fokS (E := gq121.E) (wy := ⟨[[none]], [[]], []⟩) (h := (fun gs => .n (.a) (.n (.a) (.n (.n (.a) (.b (.s (gq121.S1)))) (.a))))) (G := fun t g => gq121.F (fun y0 => g y0) t.1.1 t.1.2.1) (by kernel_rfl) gq121.hE Tryz.func121 (by kernel_rfl) rfl (Nat.le_refl _) (fun t => HintOk.n1 (by kernel_rfl) (gq121.hok gq121.hE)) (fun t g => gq121.F_nat g (fun y0 => some y0) _ _) (fun t => by kernel_rfl)
def gq73.l1 {R : Type} (kke0 : Int → List (El kFile) → Option R) (kkr : Bool → Option R) : Nat → Int → Int → List (El kFile) → Option R
 | 0, _, _, _ => none
 | n + 1, i, d, d1 =>
  cond (decide (i < (List.length d1 : Int))) (
   grd (gIx i (List.length d1)) <|
   (gq120 ((rdE kFile d1 (Int.toNat i)).1)).bind fun r =>
   cond (!r) (kkr false) (
    (gq59 ((rdE kFile d1 (Int.toNat i)).2.2) (0 : Int) (ByteArray.size (rdE kFile d1 (Int.toNat i)).2.1 : Int)).bind fun r1 =>
    cond (!r1) (kkr false) (
     cond (decide ((ByteArray.size (rdE kFile d1 (Int.toNat i)).2.1 : Int) > (3000 : Int))) (kkr false) (
      cond (decide (i > (0 : Int))) (
       grd (gIx (IntKind.wrap .i64 (i - (1 : Int))) (List.length d1)) <|
       cond (!(sLt (rdE kFile d1 (Int.toNat (IntKind.wrap .i64 (i - (1 : Int))))).1 (rdE kFile d1 (Int.toNat i)).1)) (kkr false) (gq73.l1 kke0 kkr n (IntKind.wrap .i64 (i + (1 : Int))) d d1)) (gq73.l1 kke0 kkr n (IntKind.wrap .i64 (i + (1 : Int))) d d1))))) (kke0 d d1)
theorem gq73.l1_nat {R S : Type} (g : R → Option S) (kke0 : Int → List (El kFile) → Option R) (kkr : Bool → Option R) : ∀ n i d d1, gq73.l1 (fun y0 y1 => (kke0 y0 y1).bind g) (fun y0 => (kkr y0).bind g) n i d d1 = (gq73.l1 kke0 kkr n i d d1).bind g := by
 intro n
 induction n with
 | zero => intros; rfl
 | succ n ih => intros; simp only [gq73.l1, grd_bind, cnd_bind, bnd_bind, non_bind, ih]
def gq73.F {R : Type} (kk : Bool → Option R) (d_Room : Int) (d_Files : List (El kFile)) : Option R :=
 (gq59 d_Room (0 : Int) (3000 : Int)).bind fun r =>
 cond (!r) (kk false) (
  cond (decide ((List.length d_Files : Int) > (8 : Int))) (kk false) (
   gq73.l1 (fun d d1 =>
    (gq121 d d1).bind fun r1 =>
    kk (decide (r1 ≤ d))) (fun b => kk b) fuel (0 : Int) d_Room d_Files))
theorem gq73.F_nat {R S : Type} (g : R → Option S) (kk : Bool → Option R) (d_Room d_Files) : gq73.F (fun y0 => (kk y0).bind g) d_Room d_Files = (gq73.F kk d_Room d_Files).bind g := by
 simp only [gq73.F, grd_bind, cnd_bind, bnd_bind, non_bind, ← gq73.l1_nat]
def gq73 (d_Room : Int) (d_Files : List (El kFile)) : Option Bool := gq73.F (fun y0 => some y0) d_Room d_Files
def gq73.out : Bool → CRes := fun a => ⟨encL SV.enc [.one (.bool)] (a, ()), [encL SC.enc [] ()]⟩
def gq73.ps : List PS := [.val [none, some (kFile, false)]]
def gq73.sA : List SA := [.v (.agg [.int .i64, .slv [] kFile])]
def gq73.fi : FI := FIs gq73.sA (Bool) (fun t => gq73 t.1.1 t.1.2.1) gq73.out gq73.ps
def gq73.E : Env := ⟨tt, lkF [(59, gq59.fi), (120, gq120.fi), (121, gq121.fi)], 67, 0, [], []⟩
def gq73.sh1 : SK := ⟨[.v (.one (.bptr 0 0)), .v (.one (.int .i64))], [.box [.int .i64, .slv [1] kFile]]⟩
def gq73.sh1e0 : SK := ⟨[.v (.one (.bptr 0 0))], [.box [.int .i64, .slv [1] kFile]]⟩
def gq73.sh1r : SK := ⟨[.v (.one (.bool))], []⟩
def gq73.ko1 : Ex → List CastAt × List Nat
 | .nrm => ([], [])
 | .ret => ([], [2])
 | .ext i => cond (Nat.beq i 0) ([], [1]) ([], [])
def gq73.G1 (n : Nat) (R : Type) (t : gq73.sh1.T) (K : Ex → Kp → Option R) : Option R := gq73.l1 (fun y0 y1 => K (.ext 0) (SK.enc gq73.sh1e0 (((), ()), ((y0, y1, ()), ())))) (fun y0 => K .ret (SK.enc gq73.sh1r ((y0, ()), ()))) n t.1.2.1 t.2.1.1 t.2.1.2.1
def gq73.S1 : Sum := ⟨([], [1, 3]), sumF gq73.sh1 (gq73.G1 fuel), gq73.ko1⟩
theorem gq73.ok1 (hE : EOk Tryz.prog (gq73.E)) : SumOk Tryz.prog gq73.E (cB (cR (cL (cR (cR (bodyOf Tryz.f73)))))) (gq73.S1) := by
 have hh : HintOk Tryz.prog gq73.E (cB (cB (cR (cL (cR (cR (bodyOf Tryz.f73))))))) (.a) := HintOk.n1 (Q := True) (by kernel_rfl) trivial
 have h := loopS (kin := ([], [1, 3])) (kout := gq73.ko1) (sh := gq73.sh1) (F := gq73.G1) (ops_ok (hE.gv _)) (by kernel_rfl) hh (fun _ _ _ => rfl) (fun n R t K => by kernel_rfl) fuel
 exact HintOk.n1 (c := (cB (cR (cL (cR (cR (bodyOf Tryz.f73))))))) (h := .s (gq73.S1)) (P := Tryz.prog) (E := gq73.E) (by kernel_rfl) h
theorem gq73.hok (hE : EOk Tryz.prog (gq73.E)) : HintOk Tryz.prog gq73.E (bodyOf Tryz.f73) (.n (.a) (.n (.a) (.n (.n (.a) (.b (.s (gq73.S1)))) (.a)))) := HintOk.n1 (Q := (True) ∧ ((True) ∧ (((True) ∧ (SumOk Tryz.prog gq73.E (cB (cR (cL (cR (cR (bodyOf Tryz.f73)))))) (gq73.S1))) ∧ (True)))) (by kernel_rfl) ⟨trivial, ⟨trivial, ⟨⟨trivial, (gq73.ok1 hE)⟩, trivial⟩⟩⟩
theorem gq73.hE : EOk Tryz.prog (gq73.E) := EOk.of ttOk (⟨gq59.fok, ⟨gq120.fok, ⟨gq121.fok, trivial⟩⟩⟩)
theorem gq73.fok : FOk Tryz.prog 73 gq73.fi :=
 fokS (E := gq73.E) (wy := ⟨[[none]], [[]], []⟩) (h := (fun gs => .n (.a) (.n (.a) (.n (.n (.a) (.b (.s (gq73.S1)))) (.a))))) (G := fun t g => gq73.F (fun y0 => g y0) t.1.1 t.1.2.1) (by kernel_rfl) gq73.hE Tryz.func73 (by kernel_rfl) rfl (Nat.le_refl _) (fun t => HintOk.n1 (by kernel_rfl) (gq73.hok gq73.hE)) (fun t g => gq73.F_nat g (fun y0 => some y0) _ _) (fun t => by kernel_rfl)
def gq130.F {R : Type} (kk : Int → Option R) (name : ByteArray) : Option R :=
 cond ((ByteArray.size name : Int) != (3 : Int)) (kk (0 : Int)) (
  grd (gIx (0 : Int) (ByteArray.size name)) <|
  cond ((byteAt name (0 : Int)) != (115 : Int)) (kk (0 : Int)) (
   grd (gIx (1 : Int) (ByteArray.size name)) <|
   (gq158 (byteAt name (1 : Int))).bind fun r =>
   cond (!r) (kk (0 : Int)) (
    grd (gIx (2 : Int) (ByteArray.size name)) <|
    (gq158 (byteAt name (2 : Int))).bind fun r1 =>
    cond (!r1) (kk (0 : Int)) (
     grd (gIx (1 : Int) (ByteArray.size name)) <|
     grd (gIx (2 : Int) (ByteArray.size name)) <|
     kk (IntKind.wrap .i64 ((IntKind.wrap .i64 ((IntKind.wrap .i64 ((10 : Int) * (IntKind.wrap .i64 ((IntKind.wrap .i64 (byteAt name (1 : Int))) - (48 : Int))))) + (IntKind.wrap .i64 (byteAt name (2 : Int))))) - (48 : Int)))))))
theorem gq130.F_nat {R S : Type} (g : R → Option S) (kk : Int → Option R) (name) : gq130.F (fun y0 => (kk y0).bind g) name = (gq130.F kk name).bind g := by
 simp only [gq130.F, grd_bind, cnd_bind, bnd_bind, non_bind]
def gq130 (name : ByteArray) : Option Int := gq130.F (fun y0 => some y0) name
def gq130.out : Int → CRes := fun a => ⟨encL SV.enc [.one (.int .i64)] (a, ()), [encL SC.enc [] ()]⟩
def gq130.ps : List PS := [.val [none]]
def gq130.sA : List SA := [.v (.one (.str))]
def gq130.fi : FI := FIs gq130.sA (Int) (fun t => gq130 t.1) gq130.out gq130.ps
def gq130.E : Env := ⟨tt, lkF [(158, gq158.fi)], 33, 0, [], []⟩
theorem gq130.hok (hE : EOk Tryz.prog (gq130.E)) : HintOk Tryz.prog gq130.E (bodyOf Tryz.f130) (.a) := HintOk.n1 (Q := True) (by kernel_rfl) trivial
theorem gq130.hE : EOk Tryz.prog (gq130.E) := EOk.of ttOk (⟨gq158.fok, trivial⟩)
theorem gq130.fok : FOk Tryz.prog 130 gq130.fi :=
 fokS (E := gq130.E) (wy := ⟨[[none]], [[]], []⟩) (h := (fun gs => .a)) (G := fun t g => gq130.F (fun y0 => g y0) t.1) (by kernel_rfl) gq130.hE Tryz.func130 (by kernel_rfl) rfl (Nat.le_refl _) (fun t => HintOk.n1 (by kernel_rfl) (gq130.hok gq130.hE)) (fun t g => gq130.F_nat g (fun y0 => some y0) _) (fun t => by kernel_rfl)
def gq95.l1 {R : Type} (kke0 : List Int → Option R) : Nat → Int → Int → List (El kFile) → List Int → Option R
 | 0, _, _, _, _ => none
 | n + 1, i, d, d1, out =>
  cond (decide (i < (List.length d1 : Int))) (
   grd (gIx i (List.length d1)) <|
   (gq130 ((rdE kFile d1 (Int.toNat i)).1)).bind fun r =>
   cond (decide (r > (0 : Int))) (
    grd (gRm (((List.length out) + (List.length [r])) * 8)) <|
    gq95.l1 kke0 n (IntKind.wrap .i64 (i + (1 : Int))) d d1 (out ++ [r])) (gq95.l1 kke0 n (IntKind.wrap .i64 (i + (1 : Int))) d d1 out)) (kke0 out)
theorem gq95.l1_nat {R S : Type} (g : R → Option S) (kke0 : List Int → Option R) : ∀ n i d d1 out, gq95.l1 (fun y0 => (kke0 y0).bind g) n i d d1 out = (gq95.l1 kke0 n i d d1 out).bind g := by
 intro n
 induction n with
 | zero => intros; rfl
 | succ n ih => intros; simp only [gq95.l1, grd_bind, cnd_bind, bnd_bind, non_bind, ih]
def gq95.F {R : Type} (kk : List Int → Option R) (d_Room : Int) (d_Files : List (El kFile)) : Option R :=
 gq95.l1 (fun out => kk out) fuel (0 : Int) d_Room d_Files ([] : List Int)
theorem gq95.F_nat {R S : Type} (g : R → Option S) (kk : List Int → Option R) (d_Room d_Files) : gq95.F (fun y0 => (kk y0).bind g) d_Room d_Files = (gq95.F kk d_Room d_Files).bind g := by
 simp only [gq95.F, grd_bind, cnd_bind, bnd_bind, non_bind, ← gq95.l1_nat]
def gq95 (d_Room : Int) (d_Files : List (El kFile)) : Option (List Int) := gq95.F (fun y0 => some y0) d_Room d_Files
def gq95.out : (List Int) → CRes := fun a => ⟨encL SV.enc [.one (.own [] (.int .i64) true)] (a, ()), [encL SC.enc [] ()]⟩
def gq95.ps : List PS := [.val [none, some (kFile, false)]]
def gq95.sA : List SA := [.v (.agg [.int .i64, .slv [] kFile])]
def gq95.fi : FI := FIs gq95.sA (List Int) (fun t => gq95 t.1.1 t.1.2.1) gq95.out gq95.ps
def gq95.E : Env := ⟨tt, lkF [(130, gq130.fi)], 28, 0, [], []⟩
def gq95.sh1 : SK := ⟨[.v (.one (.bptr 0 0)), .v (.one (.slo 1)), .v (.one (.int .i64))], [.box [.int .i64, .slv [1] kFile], .arr (.int .i64) [] true]⟩
def gq95.sh1e0 : SK := ⟨[.v (.one (.slo 0))], [.arr (.int .i64) [] true]⟩
def gq95.ko1 : Ex → List CastAt × List Nat
 | .nrm => ([], [])
 | .ret => ([], [])
 | .ext i => cond (Nat.beq i 0) ([], [3]) ([], [])
def gq95.G1 (n : Nat) (R : Type) (t : gq95.sh1.T) (K : Ex → Kp → Option R) : Option R := gq95.l1 (fun y0 => K (.ext 0) (SK.enc gq95.sh1e0 (((), ()), (y0, ())))) n t.1.2.2.1 t.2.1.1 t.2.1.2.1 t.2.2.1
def gq95.S1 : Sum := ⟨([], [1, 3, 4]), sumF gq95.sh1 (gq95.G1 fuel), gq95.ko1⟩
theorem gq95.ok1 (hE : EOk Tryz.prog (gq95.E)) : SumOk Tryz.prog gq95.E (cB (cR (cL (cR (cR (bodyOf Tryz.f95)))))) (gq95.S1) := by
 have hh : HintOk Tryz.prog gq95.E (cB (cB (cR (cL (cR (cR (bodyOf Tryz.f95))))))) (.a) := HintOk.n1 (Q := True) (by kernel_rfl) trivial
 have h := loopS (kin := ([], [1, 3, 4])) (kout := gq95.ko1) (sh := gq95.sh1) (F := gq95.G1) (ops_ok (hE.gv _)) (by kernel_rfl) hh (fun _ _ _ => rfl) (fun n R t K => by kernel_rfl) fuel
 exact HintOk.n1 (c := (cB (cR (cL (cR (cR (bodyOf Tryz.f95))))))) (h := .s (gq95.S1)) (P := Tryz.prog) (E := gq95.E) (by kernel_rfl) h
theorem gq95.hok (hE : EOk Tryz.prog (gq95.E)) : HintOk Tryz.prog gq95.E (bodyOf Tryz.f95) (.n (.a) (.n (.a) (.n (.n (.a) (.b (.s (gq95.S1)))) (.a)))) := HintOk.n1 (Q := (True) ∧ ((True) ∧ (((True) ∧ (SumOk Tryz.prog gq95.E (cB (cR (cL (cR (cR (bodyOf Tryz.f95)))))) (gq95.S1))) ∧ (True)))) (by kernel_rfl) ⟨trivial, ⟨trivial, ⟨⟨trivial, (gq95.ok1 hE)⟩, trivial⟩⟩⟩
theorem gq95.hE : EOk Tryz.prog (gq95.E) := EOk.of ttOk (⟨gq130.fok, trivial⟩)
theorem gq95.fok : FOk Tryz.prog 95 gq95.fi :=
 fokS (E := gq95.E) (wy := ⟨[[some ((.int .i64), true)]], [[]], []⟩) (h := (fun gs => .n (.a) (.n (.a) (.n (.n (.a) (.b (.s (gq95.S1)))) (.a))))) (G := fun t g => gq95.F (fun y0 => g y0) t.1.1 t.1.2.1) (by kernel_rfl) gq95.hE Tryz.func95 (by kernel_rfl) rfl (Nat.le_refl _) (fun t => HintOk.n1 (by kernel_rfl) (gq95.hok gq95.hE)) (fun t g => gq95.F_nat g (fun y0 => some y0) _ _) (fun t => by kernel_rfl)
def gq147.F {R : Type} (rc : Int → Option ByteArray) (kk : ByteArray → Option R) (n_ : Int) : Option R :=
 cond (n_ == (-9223372036854775808 : Int)) (
  kk (⟨#[45, 57, 50, 50, 51, 51, 55, 50, 48, 51, 54, 56, 53, 52, 55, 55, 53, 56, 48, 56]⟩ : ByteArray)) (
  cond (decide (n_ < (0 : Int))) (
   (rc (IntKind.wrap .i64 (0 - n_))).bind fun r =>
   grd (gCat (⟨#[45]⟩ : ByteArray) r) <|
   kk ((⟨#[45]⟩ : ByteArray) ++ r)) (
   cond (decide (n_ < (10 : Int))) (kk (strL [IntKind.wrap .u8 (IntKind.wrap .i64 ((48 : Int) + n_))])) (
    grd (gNz (10 : Int)) <|
    (rc (IntKind.wrap .i64 (Int.tdiv n_ (10 : Int)))).bind fun r1 =>
    grd (gNz (10 : Int)) <|
    grd (gCat r1 (strL [IntKind.wrap .u8 (IntKind.wrap .i64 ((48 : Int) + (Int.tmod n_ (10 : Int))))])) <|
    kk (r1 ++ (strL [IntKind.wrap .u8 (IntKind.wrap .i64 ((48 : Int) + (Int.tmod n_ (10 : Int))))])))))
theorem gq147.F_nat {R S : Type} (g : R → Option S) (rc : Int → Option ByteArray) (kk : ByteArray → Option R) (n_) : gq147.F rc (fun y0 => (kk y0).bind g) n_ = (gq147.F rc kk n_).bind g := by
 simp only [gq147.F, grd_bind, cnd_bind, bnd_bind, non_bind]
def gq147 : Nat → Int → Option ByteArray
 | 0, _ => none
 | fu + 1, n_ => gq147.F (gq147 fu) (fun y0 => some y0) n_
theorem gq147_nat {S : Type} (fu : Nat) (g : ByteArray → Option S) (n_ : Int) : gq147.F (gq147 fu) (fun y0 => g y0) n_ = (gq147 (fu + 1) n_).bind g := gq147.F_nat g (gq147 fu) (fun y0 => some y0) n_
def gq147.out : ByteArray → CRes := fun a => ⟨encL SV.enc [.one (.str)] (a, ()), [encL SC.enc [] ()]⟩
def gq147.ps : List PS := [.val [none]]
def gq147.sA : List SA := [.v (.one (.int .i64))]
def gq147.fi (fu : Nat) : FI := FIs gq147.sA (ByteArray) (fun t => gq147 fu t.1) gq147.out gq147.ps
def gq147.E (fu : Nat) : Env := ⟨tt, lkF [(147, gq147.fi fu)], 28, 0, [], []⟩
theorem gq147.hok (fu : Nat) (hE : EOk Tryz.prog (gq147.E fu)) : HintOk Tryz.prog (gq147.E fu) (bodyOf Tryz.f147) (.a) := HintOk.n1 (Q := True) (by kernel_rfl) trivial
theorem gq147.fok0 : FOk Tryz.prog 147 (gq147.fi 0) := FOk.zero ⟨_, _, Tryz.func147, by kernel_rfl, rfl⟩ (fun _ => rfl)
theorem gq147.fok1 (fu : Nat) (ih : FOk Tryz.prog 147 (gq147.fi fu)) : FOk Tryz.prog 147 (gq147.fi (fu + 1)) := by
 have hE : EOk Tryz.prog (gq147.E fu) := EOk.of ttOk (⟨ih, trivial⟩)
 exact fokS (E := gq147.E fu) (wy := ⟨[[none]], [[]], []⟩) (h := (fun gs => .a)) (G := fun t g => gq147.F (gq147 fu) (fun y0 => g y0) t.1) (by kernel_rfl) hE Tryz.func147 (by kernel_rfl) rfl (Nat.le_refl _) (fun t => HintOk.n1 (by kernel_rfl) (gq147.hok fu hE)) (fun t g => gq147_nat fu g t.1) (fun t => by kernel_rfl)
theorem gq147.fok (fu : Nat) : FOk Tryz.prog 147 (gq147.fi fu) := Nat.rec gq147.fok0 gq147.fok1 fu
def gq99.F {R : Type} (kk : ByteArray → Option R) (n_ : Int) : Option R :=
 grd (gNz (10 : Int)) <|
 (gq147 fuel (IntKind.wrap .i64 (Int.tdiv n_ (10 : Int)))).bind fun r =>
 grd (gCat (⟨#[115]⟩ : ByteArray) r) <|
 grd (gNz (10 : Int)) <|
 (gq147 fuel (Int.tmod n_ (10 : Int))).bind fun r1 =>
 grd (gCat ((⟨#[115]⟩ : ByteArray) ++ r) r1) <|
 kk (((⟨#[115]⟩ : ByteArray) ++ r) ++ r1)
theorem gq99.F_nat {R S : Type} (g : R → Option S) (kk : ByteArray → Option R) (n_) : gq99.F (fun y0 => (kk y0).bind g) n_ = (gq99.F kk n_).bind g := by
 simp only [gq99.F, grd_bind, cnd_bind, bnd_bind, non_bind]
def gq99 (n_ : Int) : Option ByteArray := gq99.F (fun y0 => some y0) n_
def gq99.out : ByteArray → CRes := fun a => ⟨encL SV.enc [.one (.str)] (a, ()), [encL SC.enc [] ()]⟩
def gq99.ps : List PS := [.val [none]]
def gq99.sA : List SA := [.v (.one (.int .i64))]
def gq99.fi : FI := FIs gq99.sA (ByteArray) (fun t => gq99 t.1) gq99.out gq99.ps
def gq99.E : Env := ⟨tt, lkF [(147, gq147.fi fuel)], 11, 0, [], []⟩
theorem gq99.hok (hE : EOk Tryz.prog (gq99.E)) : HintOk Tryz.prog gq99.E (bodyOf Tryz.f99) (.a) := HintOk.n1 (Q := True) (by kernel_rfl) trivial
theorem gq99.hE : EOk Tryz.prog (gq99.E) := EOk.of ttOk (⟨gq147.fok fuel, trivial⟩)
theorem gq99.fok : FOk Tryz.prog 99 gq99.fi :=
 fokS (E := gq99.E) (wy := ⟨[[none]], [[]], []⟩) (h := (fun gs => .a)) (G := fun t g => gq99.F (fun y0 => g y0) t.1) (by kernel_rfl) gq99.hE Tryz.func99 (by kernel_rfl) rfl (Nat.le_refl _) (fun t => HintOk.n1 (by kernel_rfl) (gq99.hok gq99.hE)) (fun t g => gq99.F_nat g (fun y0 => some y0) _) (fun t => by kernel_rfl)
def gq124.l1 {R : Type} (kke0 : Option R) (kkr : Int → Option R) : Nat → ByteArray → Int → Int → List (El kFile) → Option R
 | 0, _, _, _, _ => none
 | n + 1, name, i, d, d1 =>
  cond (decide (i < (List.length d1 : Int))) (
   grd (gIx i (List.length d1)) <|
   cond (sEq (rdE kFile d1 (Int.toNat i)).1 name) (kkr i) (gq124.l1 kke0 kkr n name (IntKind.wrap .i64 (i + (1 : Int))) d d1)) (kke0)
theorem gq124.l1_nat {R S : Type} (g : R → Option S) (kke0 : Option R) (kkr : Int → Option R) : ∀ n name i d d1, gq124.l1 (kke0.bind g) (fun y0 => (kkr y0).bind g) n name i d d1 = (gq124.l1 kke0 kkr n name i d d1).bind g := by
 intro n
 induction n with
 | zero => intros; rfl
 | succ n ih => intros; simp only [gq124.l1, grd_bind, cnd_bind, bnd_bind, non_bind, ih]
def gq124.F {R : Type} (kk : Int → Option R) (d_Room : Int) (d_Files : List (El kFile)) (name : ByteArray) : Option R :=
 gq124.l1 (kk (-1 : Int)) (fun i => kk i) fuel name (0 : Int) d_Room d_Files
theorem gq124.F_nat {R S : Type} (g : R → Option S) (kk : Int → Option R) (d_Room d_Files name) : gq124.F (fun y0 => (kk y0).bind g) d_Room d_Files name = (gq124.F kk d_Room d_Files name).bind g := by
 simp only [gq124.F, grd_bind, cnd_bind, bnd_bind, non_bind, ← gq124.l1_nat]
def gq124 (d_Room : Int) (d_Files : List (El kFile)) (name : ByteArray) : Option Int := gq124.F (fun y0 => some y0) d_Room d_Files name
def gq124.out : Int → CRes := fun a => ⟨encL SV.enc [.one (.int .i64)] (a, ()), [encL SC.enc [] (), encL SC.enc [] ()]⟩
def gq124.ps : List PS := [.val [none, some (kFile, false)], .val [none]]
def gq124.sA : List SA := [.v (.agg [.int .i64, .slv [] kFile]), .v (.one (.str))]
def gq124.fi : FI := FIs gq124.sA (Int) (fun t => gq124 t.1.1 t.1.2.1 t.2.1) gq124.out gq124.ps
def gq124.E : Env := ⟨tt, lkF [], 22, 0, [], []⟩
def gq124.sh1 : SK := ⟨[.v (.one (.str)), .v (.one (.bptr 0 0)), .v (.one (.int .i64))], [.box [.int .i64, .slv [1] kFile]]⟩
def gq124.sh1e0 : SK := ⟨[], []⟩
def gq124.sh1r : SK := ⟨[.v (.one (.int .i64))], []⟩
def gq124.ko1 : Ex → List CastAt × List Nat
 | .nrm => ([], [])
 | .ret => ([], [4])
 | .ext i => cond (Nat.beq i 0) ([], []) ([], [])
def gq124.G1 (n : Nat) (R : Type) (t : gq124.sh1.T) (K : Ex → Kp → Option R) : Option R := gq124.l1 (K (.ext 0) (SK.enc gq124.sh1e0 ((), ()))) (fun y0 => K .ret (SK.enc gq124.sh1r ((y0, ()), ()))) n t.1.1 t.1.2.2.1 t.2.1.1 t.2.1.2.1
def gq124.S1 : Sum := ⟨([], [1, 2, 5]), sumF gq124.sh1 (gq124.G1 fuel), gq124.ko1⟩
theorem gq124.ok1 (hE : EOk Tryz.prog (gq124.E)) : SumOk Tryz.prog gq124.E (cB (cR (cL (cR (bodyOf Tryz.f124))))) (gq124.S1) := by
 have hh : HintOk Tryz.prog gq124.E (cB (cB (cR (cL (cR (bodyOf Tryz.f124)))))) (.a) := HintOk.n1 (Q := True) (by kernel_rfl) trivial
 have h := loopS (kin := ([], [1, 2, 5])) (kout := gq124.ko1) (sh := gq124.sh1) (F := gq124.G1) (ops_ok (hE.gv _)) (by kernel_rfl) hh (fun _ _ _ => rfl) (fun n R t K => by kernel_rfl) fuel
 exact HintOk.n1 (c := (cB (cR (cL (cR (bodyOf Tryz.f124)))))) (h := .s (gq124.S1)) (P := Tryz.prog) (E := gq124.E) (by kernel_rfl) h
theorem gq124.hok (hE : EOk Tryz.prog (gq124.E)) : HintOk Tryz.prog gq124.E (bodyOf Tryz.f124) (.n (.a) (.n (.n (.a) (.b (.s (gq124.S1)))) (.a))) := HintOk.n1 (Q := (True) ∧ (((True) ∧ (SumOk Tryz.prog gq124.E (cB (cR (cL (cR (bodyOf Tryz.f124))))) (gq124.S1))) ∧ (True))) (by kernel_rfl) ⟨trivial, ⟨⟨trivial, (gq124.ok1 hE)⟩, trivial⟩⟩
theorem gq124.hE : EOk Tryz.prog (gq124.E) := EOk.of ttOk (trivial)
theorem gq124.fok : FOk Tryz.prog 124 gq124.fi :=
 fokS (E := gq124.E) (wy := ⟨[[none]], [[], []], []⟩) (h := (fun gs => .n (.a) (.n (.n (.a) (.b (.s (gq124.S1)))) (.a)))) (G := fun t g => gq124.F (fun y0 => g y0) t.1.1 t.1.2.1 t.2.1) (by kernel_rfl) gq124.hE Tryz.func124 (by kernel_rfl) rfl (Nat.le_refl _) (fun t => HintOk.n1 (by kernel_rfl) (gq124.hok gq124.hE)) (fun t g => gq124.F_nat g (fun y0 => some y0) _ _ _) (fun t => by kernel_rfl)
def gq96.F {R : Type} (kk : ByteArray → Option R) (d_Room : Int) (d_Files : List (El kFile)) (n_ : Int) : Option R :=
 (gq99 n_).bind fun r =>
 (gq124 d_Room d_Files r).bind fun r1 =>
 grd (gIx r1 (List.length d_Files)) <|
 kk (rdE kFile d_Files (Int.toNat r1)).2.1
theorem gq96.F_nat {R S : Type} (g : R → Option S) (kk : ByteArray → Option R) (d_Room d_Files n_) : gq96.F (fun y0 => (kk y0).bind g) d_Room d_Files n_ = (gq96.F kk d_Room d_Files n_).bind g := by
 simp only [gq96.F, grd_bind, cnd_bind, bnd_bind, non_bind]
def gq96 (d_Room : Int) (d_Files : List (El kFile)) (n_ : Int) : Option ByteArray := gq96.F (fun y0 => some y0) d_Room d_Files n_
def gq96.out : ByteArray → CRes := fun a => ⟨encL SV.enc [.one (.str)] (a, ()), [encL SC.enc [] (), encL SC.enc [] ()]⟩
def gq96.ps : List PS := [.val [none, some (kFile, false)], .val [none]]
def gq96.sA : List SA := [.v (.agg [.int .i64, .slv [] kFile]), .v (.one (.int .i64))]
def gq96.fi : FI := FIs gq96.sA (ByteArray) (fun t => gq96 t.1.1 t.1.2.1 t.2.1) gq96.out gq96.ps
def gq96.E : Env := ⟨tt, lkF [(99, gq99.fi), (124, gq124.fi)], 14, 0, [], []⟩
theorem gq96.hok (hE : EOk Tryz.prog (gq96.E)) : HintOk Tryz.prog gq96.E (bodyOf Tryz.f96) (.a) := HintOk.n1 (Q := True) (by kernel_rfl) trivial
theorem gq96.hE : EOk Tryz.prog (gq96.E) := EOk.of ttOk (⟨gq99.fok, ⟨gq124.fok, trivial⟩⟩)
theorem gq96.fok : FOk Tryz.prog 96 gq96.fi :=
 fokS (E := gq96.E) (wy := ⟨[[none]], [[], []], []⟩) (h := (fun gs => .a)) (G := fun t g => gq96.F (fun y0 => g y0) t.1.1 t.1.2.1 t.2.1) (by kernel_rfl) gq96.hE Tryz.func96 (by kernel_rfl) rfl (Nat.le_refl _) (fun t => HintOk.n1 (by kernel_rfl) (gq96.hok gq96.hE)) (fun t g => gq96.F_nat g (fun y0 => some y0) _ _ _) (fun t => by kernel_rfl)
def gq133.F {R : Type} (kk : List Int → Option R) (n_ : Int) : Option R :=
 grd (gSh (24 : Int)) <|
 grd (gSh (16 : Int)) <|
 grd (gSh (8 : Int)) <|
 kk [IntKind.wrap .u8 (iShr .i64 n_ (24 : Int)), IntKind.wrap .u8 (iShr .i64 n_ (16 : Int)), IntKind.wrap .u8 (iShr .i64 n_ (8 : Int)), IntKind.wrap .u8 n_]
theorem gq133.F_nat {R S : Type} (g : R → Option S) (kk : List Int → Option R) (n_) : gq133.F (fun y0 => (kk y0).bind g) n_ = (gq133.F kk n_).bind g := by
 simp only [gq133.F, grd_bind, cnd_bind, bnd_bind, non_bind]
def gq133 (n_ : Int) : Option (List Int) := gq133.F (fun y0 => some y0) n_
def gq133.out : (List Int) → CRes := fun a => ⟨encL SV.enc [.one (.own [] (.int .u8) true)] (a, ()), [encL SC.enc [] ()]⟩
def gq133.ps : List PS := [.val [none]]
def gq133.sA : List SA := [.v (.one (.int .i64))]
def gq133.fi : FI := FIs gq133.sA (List Int) (fun t => gq133 t.1) gq133.out gq133.ps
def gq133.E : Env := ⟨tt, lkF [], 15, 0, [], []⟩
theorem gq133.hok (hE : EOk Tryz.prog (gq133.E)) : HintOk Tryz.prog gq133.E (bodyOf Tryz.f133) (.a) := HintOk.n1 (Q := True) (by kernel_rfl) trivial
theorem gq133.hE : EOk Tryz.prog (gq133.E) := EOk.of ttOk (trivial)
theorem gq133.fok : FOk Tryz.prog 133 gq133.fi :=
 fokS (E := gq133.E) (wy := ⟨[[some ((.int .u8), true)]], [[]], []⟩) (h := (fun gs => .a)) (G := fun t g => gq133.F (fun y0 => g y0) t.1) (by kernel_rfl) gq133.hE Tryz.func133 (by kernel_rfl) rfl (Nat.le_refl _) (fun t => HintOk.n1 (by kernel_rfl) (gq133.hok gq133.hE)) (fun t g => gq133.F_nat g (fun y0 => some y0) _) (fun t => by kernel_rfl)
def gq150.F {R : Type} (kk : List Int → Option R) (n_ : Int) : Option R :=
 grd (gNz (256 : Int)) <|
 kk [IntKind.wrap .u8 (IntKind.wrap .i64 (Int.tdiv n_ (256 : Int))), IntKind.wrap .u8 n_]
theorem gq150.F_nat {R S : Type} (g : R → Option S) (kk : List Int → Option R) (n_) : gq150.F (fun y0 => (kk y0).bind g) n_ = (gq150.F kk n_).bind g := by
 simp only [gq150.F, grd_bind, cnd_bind, bnd_bind, non_bind]
def gq150 (n_ : Int) : Option (List Int) := gq150.F (fun y0 => some y0) n_
def gq150.out : (List Int) → CRes := fun a => ⟨encL SV.enc [.one (.own [] (.int .u8) true)] (a, ()), [encL SC.enc [] ()]⟩
def gq150.ps : List PS := [.val [none]]
def gq150.sA : List SA := [.v (.one (.int .i64))]
def gq150.fi : FI := FIs gq150.sA (List Int) (fun t => gq150 t.1) gq150.out gq150.ps
def gq150.E : Env := ⟨tt, lkF [], 9, 0, [], []⟩
theorem gq150.hok (hE : EOk Tryz.prog (gq150.E)) : HintOk Tryz.prog gq150.E (bodyOf Tryz.f150) (.a) := HintOk.n1 (Q := True) (by kernel_rfl) trivial
theorem gq150.hE : EOk Tryz.prog (gq150.E) := EOk.of ttOk (trivial)
theorem gq150.fok : FOk Tryz.prog 150 gq150.fi :=
 fokS (E := gq150.E) (wy := ⟨[[some ((.int .u8), true)]], [[]], []⟩) (h := (fun gs => .a)) (G := fun t g => gq150.F (fun y0 => g y0) t.1) (by kernel_rfl) gq150.hE Tryz.func150 (by kernel_rfl) rfl (Nat.le_refl _) (fun t => HintOk.n1 (by kernel_rfl) (gq150.hok gq150.hE)) (fun t g => gq150.F_nat g (fun y0 => some y0) _) (fun t => by kernel_rfl)
def gq151.l1 {R : Type} (kke2 : List Int → Int → Int → Option R) : Nat → List Int → Int → Int → Int → Option R
 | 0, _, _, _, _ => none
 | n + 1, b, n_, i, k_ =>
  cond (decide (k_ < (8 : Int))) (
   grd (gNz (2 : Int)) <|
   cond ((Int.tmod n_ (2 : Int)) == (1 : Int)) (
    grd (gNz (2 : Int)) <|
    gq151.l1 kke2 n b (iXor .i64 (IntKind.wrap .i64 (Int.tdiv n_ (2 : Int))) (3988292384 : Int)) i (IntKind.wrap .i64 (k_ + (1 : Int)))) (
    grd (gNz (2 : Int)) <|
    gq151.l1 kke2 n b (IntKind.wrap .i64 (Int.tdiv n_ (2 : Int))) i (IntKind.wrap .i64 (k_ + (1 : Int))))) (kke2 b n_ i)
theorem gq151.l1_nat {R S : Type} (g : R → Option S) (kke2 : List Int → Int → Int → Option R) : ∀ n b n_ i k_, gq151.l1 (fun y0 y1 y2 => (kke2 y0 y1 y2).bind g) n b n_ i k_ = (gq151.l1 kke2 n b n_ i k_).bind g := by
 intro n
 induction n with
 | zero => intros; rfl
 | succ n ih => intros; simp only [gq151.l1, grd_bind, cnd_bind, bnd_bind, non_bind, ih]
def gq151.l2 {R : Type} (kke0 : Int → Option R) : Nat → List Int → Int → Int → Option R
 | 0, _, _, _ => none
 | n + 1, b, n_, i =>
  cond (decide (i < (List.length b : Int))) (
   grd (gIx i (List.length b)) <|
   gq151.l1 (fun b1 n_1 i1 => gq151.l2 kke0 n b1 n_1 (IntKind.wrap .i64 (i1 + (1 : Int)))) fuel b (iXor .i64 n_ (IntKind.wrap .i64 (rdE (.int .u8 : Kd) b (Int.toNat i)))) i (0 : Int)) (kke0 n_)
theorem gq151.l2_nat {R S : Type} (g : R → Option S) (kke0 : Int → Option R) : ∀ n b n_ i, gq151.l2 (fun y0 => (kke0 y0).bind g) n b n_ i = (gq151.l2 kke0 n b n_ i).bind g := by
 intro n
 induction n with
 | zero => intros; rfl
 | succ n ih => intros; simp only [gq151.l2, grd_bind, cnd_bind, bnd_bind, non_bind, ← gq151.l1_nat, ih]
def gq151.F {R : Type} (kk : Int → Option R) (b : List Int) : Option R :=
 gq151.l2 (fun n_ => kk (iXor .i64 n_ (4294967295 : Int))) fuel b (4294967295 : Int) (0 : Int)
theorem gq151.F_nat {R S : Type} (g : R → Option S) (kk : Int → Option R) (b) : gq151.F (fun y0 => (kk y0).bind g) b = (gq151.F kk b).bind g := by
 simp only [gq151.F, grd_bind, cnd_bind, bnd_bind, non_bind, ← gq151.l2_nat]
def gq151 (b : List Int) : Option Int := gq151.F (fun y0 => some y0) b
def gq151.out : Int → CRes := fun a => ⟨encL SV.enc [.one (.int .i64)] (a, ()), [encL SC.enc [] ()]⟩
def gq151.ps : List PS := [.val [some ((.int .u8), false)]]
def gq151.sA : List SA := [.v (.one (.slv [] (.int .u8)))]
def gq151.fi : FI := FIs gq151.sA (Int) (fun t => gq151 t.1) gq151.out gq151.ps
def gq151.E : Env := ⟨tt, lkF [], 33, 0, [], []⟩
def gq151.sh1 : SK := ⟨[.v (.one (.slv [1] (.int .u8))), .v (.one (.int .i64)), .v (.one (.int .i64)), .v (.one (.int .i64))], []⟩
def gq151.sh1e2 : SK := ⟨[.v (.one (.slv [1] (.int .u8))), .v (.one (.int .i64)), .v (.one (.int .i64))], []⟩
def gq151.ko1 : Ex → List CastAt × List Nat
 | .nrm => ([], [])
 | .ret => ([], [])
 | .ext i => cond (Nat.beq i 2) ([], [0, 3, 4]) ([], [])
def gq151.G1 (n : Nat) (R : Type) (t : gq151.sh1.T) (K : Ex → Kp → Option R) : Option R := gq151.l1 (fun y0 y1 y2 => K (.ext 2) (SK.enc gq151.sh1e2 ((y0, y1, y2, ()), ()))) n t.1.1 t.1.2.1 t.1.2.2.1 t.1.2.2.2.1
def gq151.S1 : Sum := ⟨([], [0, 3, 4, 5]), sumF gq151.sh1 (gq151.G1 fuel), gq151.ko1⟩
theorem gq151.ok1 (hE : EOk Tryz.prog (gq151.E)) : SumOk Tryz.prog gq151.E (cB (cR (cR (cB (cL (cR (cB (cB (cR (cL (cR (cR (bodyOf Tryz.f151))))))))))))) (gq151.S1) := by
 have hh : HintOk Tryz.prog gq151.E (cB (cB (cR (cR (cB (cL (cR (cB (cB (cR (cL (cR (cR (bodyOf Tryz.f151)))))))))))))) (.a) := HintOk.n1 (Q := True) (by kernel_rfl) trivial
 have h := loopS (kin := ([], [0, 3, 4, 5])) (kout := gq151.ko1) (sh := gq151.sh1) (F := gq151.G1) (ops_ok (hE.gv _)) (by kernel_rfl) hh (fun _ _ _ => rfl) (fun n R t K => by kernel_rfl) fuel
 exact HintOk.n1 (c := (cB (cR (cR (cB (cL (cR (cB (cB (cR (cL (cR (cR (bodyOf Tryz.f151)))))))))))))) (h := .s (gq151.S1)) (P := Tryz.prog) (E := gq151.E) (by kernel_rfl) h
def gq151.sh2 : SK := ⟨[.v (.one (.slv [1] (.int .u8))), .v (.one (.int .i64)), .v (.one (.int .i64))], []⟩
def gq151.sh2e0 : SK := ⟨[.v (.one (.int .i64))], []⟩
def gq151.ko2 : Ex → List CastAt × List Nat
 | .nrm => ([], [])
 | .ret => ([], [])
 | .ext i => cond (Nat.beq i 0) ([], [3]) ([], [])
def gq151.G2 (n : Nat) (R : Type) (t : gq151.sh2.T) (K : Ex → Kp → Option R) : Option R := gq151.l2 (fun y0 => K (.ext 0) (SK.enc gq151.sh2e0 ((y0, ()), ()))) n t.1.1 t.1.2.1 t.1.2.2.1
def gq151.S2 : Sum := ⟨([], [0, 3, 4]), sumF gq151.sh2 (gq151.G2 fuel), gq151.ko2⟩
theorem gq151.ok2 (hE : EOk Tryz.prog (gq151.E)) : SumOk Tryz.prog gq151.E (cB (cR (cL (cR (cR (bodyOf Tryz.f151)))))) (gq151.S2) := by
 have hh : HintOk Tryz.prog gq151.E (cB (cB (cR (cL (cR (cR (bodyOf Tryz.f151))))))) (.n (.a) (.n (.b (.n (.a) (.n (.a) (.b (.s (gq151.S1)))))) (.a))) := HintOk.n1 (Q := (True) ∧ (((True) ∧ ((True) ∧ (SumOk Tryz.prog gq151.E (cB (cR (cR (cB (cL (cR (cB (cB (cR (cL (cR (cR (bodyOf Tryz.f151))))))))))))) (gq151.S1)))) ∧ (True))) (by kernel_rfl) ⟨trivial, ⟨⟨trivial, ⟨trivial, (gq151.ok1 hE)⟩⟩, trivial⟩⟩
 have h := loopS (kin := ([], [0, 3, 4])) (kout := gq151.ko2) (sh := gq151.sh2) (F := gq151.G2) (ops_ok (hE.gv _)) (by kernel_rfl) hh (fun _ _ _ => rfl) (fun n R t K => by kernel_rfl) fuel
 exact HintOk.n1 (c := (cB (cR (cL (cR (cR (bodyOf Tryz.f151))))))) (h := .s (gq151.S2)) (P := Tryz.prog) (E := gq151.E) (by kernel_rfl) h
theorem gq151.hok (hE : EOk Tryz.prog (gq151.E)) : HintOk Tryz.prog gq151.E (bodyOf Tryz.f151) (.n (.a) (.n (.a) (.n (.n (.a) (.b (.s (gq151.S2)))) (.a)))) := HintOk.n1 (Q := (True) ∧ ((True) ∧ (((True) ∧ (SumOk Tryz.prog gq151.E (cB (cR (cL (cR (cR (bodyOf Tryz.f151)))))) (gq151.S2))) ∧ (True)))) (by kernel_rfl) ⟨trivial, ⟨trivial, ⟨⟨trivial, (gq151.ok2 hE)⟩, trivial⟩⟩⟩
theorem gq151.hE : EOk Tryz.prog (gq151.E) := EOk.of ttOk (trivial)
theorem gq151.fok : FOk Tryz.prog 151 gq151.fi :=
 fokS (E := gq151.E) (wy := ⟨[[none]], [[]], []⟩) (h := (fun gs => .n (.a) (.n (.a) (.n (.n (.a) (.b (.s (gq151.S2)))) (.a))))) (G := fun t g => gq151.F (fun y0 => g y0) t.1) (by kernel_rfl) gq151.hE Tryz.func151 (by kernel_rfl) rfl (Nat.le_refl _) (fun t => HintOk.n1 (by kernel_rfl) (gq151.hok gq151.hE)) (fun t g => gq151.F_nat g (fun y0 => some y0) _) (fun t => by kernel_rfl)
def gq110.F {R : Type} (kk : List Int → Option R) (data : List Int) : Option R :=
 (gq150 (List.length data : Int)).bind fun r =>
 grd (gRm (((List.length ([] : List Int)) + (List.length r)) * 1)) <|
 grd (gRm (((List.length (([] : List Int) ++ r)) + (List.length data)) * 1)) <|
 (gq151 ((([] : List Int) ++ r) ++ data)).bind fun r1 =>
 (gq133 r1).bind fun r2 =>
 grd (gRm (((List.length r) + (List.length r2)) * 1)) <|
 grd (gRm (((List.length (r ++ r2)) + (List.length data)) * 1)) <|
 kk ((r ++ r2) ++ data)
theorem gq110.F_nat {R S : Type} (g : R → Option S) (kk : List Int → Option R) (data) : gq110.F (fun y0 => (kk y0).bind g) data = (gq110.F kk data).bind g := by
 simp only [gq110.F, grd_bind, cnd_bind, bnd_bind, non_bind]
def gq110 (data : List Int) : Option (List Int) := gq110.F (fun y0 => some y0) data
def gq110.out : (List Int) → CRes := fun a => ⟨encL SV.enc [.one (.own [] (.int .u8) true)] (a, ()), [encL SC.enc [] ()]⟩
def gq110.ps : List PS := [.val [some ((.int .u8), false)]]
def gq110.sA : List SA := [.v (.one (.slv [] (.int .u8)))]
def gq110.fi : FI := FIs gq110.sA (List Int) (fun t => gq110 t.1) gq110.out gq110.ps
def gq110.E : Env := ⟨tt, lkF [(133, gq133.fi), (150, gq150.fi), (151, gq151.fi)], 20, 0, [], []⟩
theorem gq110.hok (hE : EOk Tryz.prog (gq110.E)) : HintOk Tryz.prog gq110.E (bodyOf Tryz.f110) (.a) := HintOk.n1 (Q := True) (by kernel_rfl) trivial
theorem gq110.hE : EOk Tryz.prog (gq110.E) := EOk.of ttOk (⟨gq133.fok, ⟨gq150.fok, ⟨gq151.fok, trivial⟩⟩⟩)
theorem gq110.fok : FOk Tryz.prog 110 gq110.fi :=
 fokS (E := gq110.E) (wy := ⟨[[some ((.int .u8), true)]], [[]], []⟩) (h := (fun gs => .a)) (G := fun t g => gq110.F (fun y0 => g y0) t.1) (by kernel_rfl) gq110.hE Tryz.func110 (by kernel_rfl) rfl (Nat.le_refl _) (fun t => HintOk.n1 (by kernel_rfl) (gq110.hok gq110.hE)) (fun t g => gq110.F_nat g (fun y0 => some y0) _) (fun t => by kernel_rfl)
def gq97.l1 {R : Type} (kke0 : Int → List ByteArray → Option R) (kkr : Int → Int → List ByteArray → Option R) : Nat → List Int → Int → List ByteArray → Option R
 | 0, _, _, _ => none
 | n + 1, b, at_, out =>
  cond (decide (at_ < (List.length b : Int))) (
   cond (decide ((IntKind.wrap .i64 ((List.length b : Int) - at_)) < (6 : Int))) (kkr at_ (16 : Int) out) (
    grd (gIx at_ (List.length b)) <|
    grd (gIx (IntKind.wrap .i64 (at_ + (1 : Int))) (List.length b)) <|
    cond ((IntKind.wrap .i64 ((IntKind.wrap .i64 ((IntKind.wrap .i64 (rdE (.int .u8 : Kd) b (Int.toNat at_))) * (256 : Int))) + (IntKind.wrap .i64 (rdE (.int .u8 : Kd) b (Int.toNat (IntKind.wrap .i64 (at_ + (1 : Int)))))))) == (0 : Int)) (kkr at_ (8 : Int) out) (
     cond (decide ((IntKind.wrap .i64 ((IntKind.wrap .i64 ((IntKind.wrap .i64 (rdE (.int .u8 : Kd) b (Int.toNat at_))) * (256 : Int))) + (IntKind.wrap .i64 (rdE (.int .u8 : Kd) b (Int.toNat (IntKind.wrap .i64 (at_ + (1 : Int)))))))) > (200 : Int))) (kkr at_ (8 : Int) out) (
      cond (decide ((IntKind.wrap .i64 ((IntKind.wrap .i64 ((List.length b : Int) - at_)) - (6 : Int))) < (IntKind.wrap .i64 ((IntKind.wrap .i64 ((IntKind.wrap .i64 (rdE (.int .u8 : Kd) b (Int.toNat at_))) * (256 : Int))) + (IntKind.wrap .i64 (rdE (.int .u8 : Kd) b (Int.toNat (IntKind.wrap .i64 (at_ + (1 : Int)))))))))) (kkr at_ (16 : Int) out) (
       grd (gSl (IntKind.wrap .i64 (at_ + (6 : Int))) (IntKind.wrap .i64 ((IntKind.wrap .i64 (at_ + (6 : Int))) + (IntKind.wrap .i64 ((IntKind.wrap .i64 ((IntKind.wrap .i64 (rdE (.int .u8 : Kd) b (Int.toNat at_))) * (256 : Int))) + (IntKind.wrap .i64 (rdE (.int .u8 : Kd) b (Int.toNat (IntKind.wrap .i64 (at_ + (1 : Int)))))))))) (List.length b)) <|
       (gq110 (sub b (IntKind.wrap .i64 (at_ + (6 : Int))) (IntKind.wrap .i64 ((IntKind.wrap .i64 (at_ + (6 : Int))) + (IntKind.wrap .i64 ((IntKind.wrap .i64 ((IntKind.wrap .i64 (rdE (.int .u8 : Kd) b (Int.toNat at_))) * (256 : Int))) + (IntKind.wrap .i64 (rdE (.int .u8 : Kd) b (Int.toNat (IntKind.wrap .i64 (at_ + (1 : Int)))))))))))).bind fun r =>
       grd (gSl at_ (IntKind.wrap .i64 ((IntKind.wrap .i64 (at_ + (6 : Int))) + (IntKind.wrap .i64 ((IntKind.wrap .i64 ((IntKind.wrap .i64 (rdE (.int .u8 : Kd) b (Int.toNat at_))) * (256 : Int))) + (IntKind.wrap .i64 (rdE (.int .u8 : Kd) b (Int.toNat (IntKind.wrap .i64 (at_ + (1 : Int)))))))))) (List.length b)) <|
       cond (!(sEq (strL r) (strL (sub b at_ (IntKind.wrap .i64 ((IntKind.wrap .i64 (at_ + (6 : Int))) + (IntKind.wrap .i64 ((IntKind.wrap .i64 ((IntKind.wrap .i64 (rdE (.int .u8 : Kd) b (Int.toNat at_))) * (256 : Int))) + (IntKind.wrap .i64 (rdE (.int .u8 : Kd) b (Int.toNat (IntKind.wrap .i64 (at_ + (1 : Int)))))))))))))) (kkr at_ (8 : Int) out) (
        grd (gRm (((List.length out) + (List.length [strL (sub b (IntKind.wrap .i64 (at_ + (6 : Int))) (IntKind.wrap .i64 ((IntKind.wrap .i64 (at_ + (6 : Int))) + (IntKind.wrap .i64 ((IntKind.wrap .i64 ((IntKind.wrap .i64 (rdE (.int .u8 : Kd) b (Int.toNat at_))) * (256 : Int))) + (IntKind.wrap .i64 (rdE (.int .u8 : Kd) b (Int.toNat (IntKind.wrap .i64 (at_ + (1 : Int)))))))))))])) * 16)) <|
        gq97.l1 kke0 kkr n b (IntKind.wrap .i64 (at_ + (IntKind.wrap .i64 ((6 : Int) + (IntKind.wrap .i64 ((IntKind.wrap .i64 ((IntKind.wrap .i64 (rdE (.int .u8 : Kd) b (Int.toNat at_))) * (256 : Int))) + (IntKind.wrap .i64 (rdE (.int .u8 : Kd) b (Int.toNat (IntKind.wrap .i64 (at_ + (1 : Int)))))))))))) (out ++ [strL (sub b (IntKind.wrap .i64 (at_ + (6 : Int))) (IntKind.wrap .i64 ((IntKind.wrap .i64 (at_ + (6 : Int))) + (IntKind.wrap .i64 ((IntKind.wrap .i64 ((IntKind.wrap .i64 (rdE (.int .u8 : Kd) b (Int.toNat at_))) * (256 : Int))) + (IntKind.wrap .i64 (rdE (.int .u8 : Kd) b (Int.toNat (IntKind.wrap .i64 (at_ + (1 : Int)))))))))))]))))))) (kke0 at_ out)
theorem gq97.l1_nat {R S : Type} (g : R → Option S) (kke0 : Int → List ByteArray → Option R) (kkr : Int → Int → List ByteArray → Option R) : ∀ n b at_ out, gq97.l1 (fun y0 y1 => (kke0 y0 y1).bind g) (fun y0 y1 y2 => (kkr y0 y1 y2).bind g) n b at_ out = (gq97.l1 kke0 kkr n b at_ out).bind g := by
 intro n
 induction n with
 | zero => intros; rfl
 | succ n ih => intros; simp only [gq97.l1, grd_bind, cnd_bind, bnd_bind, non_bind, ih]
def gq97.F {R : Type} (kk : List ByteArray → Int → Int → Option R) (b : List Int) : Option R :=
 gq97.l1 (fun at_ out => kk out at_ (0 : Int)) (fun i i1 l => kk l i i1) fuel b (0 : Int) ([] : List ByteArray)
theorem gq97.F_nat {R S : Type} (g : R → Option S) (kk : List ByteArray → Int → Int → Option R) (b) : gq97.F (fun y0 y1 y2 => (kk y0 y1 y2).bind g) b = (gq97.F kk b).bind g := by
 simp only [gq97.F, grd_bind, cnd_bind, bnd_bind, non_bind, ← gq97.l1_nat]
def gq97 (b : List Int) : Option (List ByteArray × Int × Int) := gq97.F (fun y0 y1 y2 => some (y0, y1, y2)) b
def gq97.out : (List ByteArray × Int × Int) → CRes := fun a => ⟨encL SV.enc [.one (.own [] .str true), .one (.int .i64), .one (.int .i64)] (a.1, a.2.1, a.2.2, ()), [encL SC.enc [] ()]⟩
def gq97.ps : List PS := [.val [some ((.int .u8), false)]]
def gq97.sA : List SA := [.v (.one (.slv [] (.int .u8)))]
def gq97.fi : FI := FIs gq97.sA (List ByteArray × Int × Int) (fun t => gq97 t.1) gq97.out gq97.ps
def gq97.E : Env := ⟨tt, lkF [(110, gq110.fi)], 84, 0, [], []⟩
def gq97.sh1 : SK := ⟨[.v (.one (.slv [1] (.int .u8))), .v (.one (.slo 0)), .v (.one (.int .i64))], [.arr .str [] true]⟩
def gq97.sh1e0 : SK := ⟨[.v (.one (.slo 0)), .v (.one (.int .i64))], [.arr .str [] true]⟩
def gq97.sh1r : SK := ⟨[.v (.one (.slo 0)), .v (.one (.int .i64)), .v (.one (.int .i64))], [.arr .str [] true]⟩
def gq97.ko1 : Ex → List CastAt × List Nat
 | .nrm => ([], [])
 | .ret => ([], [2, 3, 4])
 | .ext i => cond (Nat.beq i 0) ([], [5, 6]) ([], [])
def gq97.G1 (n : Nat) (R : Type) (t : gq97.sh1.T) (K : Ex → Kp → Option R) : Option R := gq97.l1 (fun y0 y1 => K (.ext 0) (SK.enc gq97.sh1e0 (((), y0, ()), (y1, ())))) (fun y0 y1 y2 => K .ret (SK.enc gq97.sh1r (((), y0, y1, ()), (y2, ())))) n t.1.1 t.1.2.2.1 t.2.1
def gq97.S1 : Sum := ⟨([], [0, 5, 6]), sumF gq97.sh1 (gq97.G1 fuel), gq97.ko1⟩
theorem gq97.ok1 (hE : EOk Tryz.prog (gq97.E)) : SumOk Tryz.prog gq97.E (cB (cL (cR (cR (cR (bodyOf Tryz.f97)))))) (gq97.S1) := by
 have hh : HintOk Tryz.prog gq97.E (cB (cB (cL (cR (cR (cR (bodyOf Tryz.f97))))))) (.a) := HintOk.n1 (Q := True) (by kernel_rfl) trivial
 have h := loopS (kin := ([], [0, 5, 6])) (kout := gq97.ko1) (sh := gq97.sh1) (F := gq97.G1) (ops_ok (hE.gv _)) (by kernel_rfl) hh (fun _ _ _ => rfl) (fun n R t K => by kernel_rfl) fuel
 exact HintOk.n1 (c := (cB (cL (cR (cR (cR (bodyOf Tryz.f97))))))) (h := .s (gq97.S1)) (P := Tryz.prog) (E := gq97.E) (by kernel_rfl) h
theorem gq97.hok (hE : EOk Tryz.prog (gq97.E)) : HintOk Tryz.prog gq97.E (bodyOf Tryz.f97) (.n (.a) (.n (.a) (.n (.a) (.n (.b (.s (gq97.S1))) (.a))))) := HintOk.n1 (Q := (True) ∧ ((True) ∧ ((True) ∧ ((SumOk Tryz.prog gq97.E (cB (cL (cR (cR (cR (bodyOf Tryz.f97)))))) (gq97.S1)) ∧ (True))))) (by kernel_rfl) ⟨trivial, ⟨trivial, ⟨trivial, ⟨(gq97.ok1 hE), trivial⟩⟩⟩⟩
theorem gq97.hE : EOk Tryz.prog (gq97.E) := EOk.of ttOk (⟨gq110.fok, trivial⟩)
theorem gq97.fok : FOk Tryz.prog 97 gq97.fi :=
 fokS (E := gq97.E) (wy := ⟨[[some (.str, true)], [none], [none]], [[]], []⟩) (h := (fun gs => .n (.a) (.n (.a) (.n (.a) (.n (.b (.s (gq97.S1))) (.a)))))) (G := fun t g => gq97.F (fun y0 y1 y2 => g (y0, y1, y2)) t.1) (by kernel_rfl) gq97.hE Tryz.func97 (by kernel_rfl) rfl (Nat.le_refl _) (fun t => HintOk.n1 (by kernel_rfl) (gq97.hok gq97.hE)) (fun t g => gq97.F_nat g (fun y0 y1 y2 => some (y0, y1, y2)) _) (fun t => by kernel_rfl)
def gq98.l1 {R : Type} (kke0 : Int → List Int → Int → Bool → Option R) (kkr : Int → List Int → Int → Bool → Option R) : Nat → Int → Int → Int → List Int → Int → Bool → Option R
 | 0, _, _, _, _, _, _ => none
 | n + 1, n_, out, i, r, r1, r2 =>
  cond (decide (i < n_)) (
   cond (r2) (kkr (0 : Int) r r1 true) (
    cond (decide (r1 ≥ (List.length r : Int))) (kkr (0 : Int) r r1 true) (
     grd (gIx r1 (List.length r)) <|
     gq98.l1 kke0 kkr n n_ (IntKind.wrap .i64 ((IntKind.wrap .i64 (out * (256 : Int))) + (IntKind.wrap .i64 (rdE (.int .u8 : Kd) r (Int.toNat r1))))) (IntKind.wrap .i64 (i + (1 : Int))) r (IntKind.wrap .i64 (r1 + (1 : Int))) r2))) (kke0 out r r1 r2)
theorem gq98.l1_nat {R S : Type} (g : R → Option S) (kke0 : Int → List Int → Int → Bool → Option R) (kkr : Int → List Int → Int → Bool → Option R) : ∀ n n_ out i r r1 r2, gq98.l1 (fun y0 y1 y2 y3 => (kke0 y0 y1 y2 y3).bind g) (fun y0 y1 y2 y3 => (kkr y0 y1 y2 y3).bind g) n n_ out i r r1 r2 = (gq98.l1 kke0 kkr n n_ out i r r1 r2).bind g := by
 intro n
 induction n with
 | zero => intros; rfl
 | succ n ih => intros; simp only [gq98.l1, grd_bind, cnd_bind, bnd_bind, non_bind, ih]
def gq98.F {R : Type} (kk : Int → List Int → Int → Bool → Option R) (r_b : List Int) (r_at : Int) (r_bad : Bool) (n_ : Int) : Option R :=
 gq98.l1 (fun out r r1 r2 => kk out r r1 r2) (fun i r3 r4 r5 => kk i r3 r4 r5) fuel n_ (0 : Int) (0 : Int) r_b r_at r_bad
theorem gq98.F_nat {R S : Type} (g : R → Option S) (kk : Int → List Int → Int → Bool → Option R) (r_b r_at r_bad n_) : gq98.F (fun y0 y1 y2 y3 => (kk y0 y1 y2 y3).bind g) r_b r_at r_bad n_ = (gq98.F kk r_b r_at r_bad n_).bind g := by
 simp only [gq98.F, grd_bind, cnd_bind, bnd_bind, non_bind, ← gq98.l1_nat]
def gq98 (r_b : List Int) (r_at : Int) (r_bad : Bool) (n_ : Int) : Option (Int × List Int × Int × Bool) := gq98.F (fun y0 y1 y2 y3 => some (y0, y1, y2, y3)) r_b r_at r_bad n_
def gq98.out : (Int × List Int × Int × Bool) → CRes := fun a => ⟨encL SV.enc [.one (.int .i64)] (a.1, ()), [encL SC.enc [.slv [1] (.int .u8), .int .i64, .bool] (a.2.1, a.2.2.1, a.2.2.2, ()), encL SC.enc [] ()]⟩
def gq98.ps : List PS := [.ptr [some ((.int .u8), false), none, none], .val [none]]
def gq98.sA : List SA := [.ptr [.slv [] (.int .u8), .int .i64, .bool], .v (.one (.int .i64))]
def gq98.fi : FI := FIs gq98.sA (Int × List Int × Int × Bool) (fun t => gq98 t.1.1 t.1.2.1 t.1.2.2.1 t.2.1) gq98.out gq98.ps
def gq98.E : Env := ⟨tt, lkF [], 53, 1, [], []⟩
def gq98.sh1 : SK := ⟨[.v (.one (.bptr 0 0)), .v (.one (.int .i64)), .v (.one (.int .i64)), .v (.one (.int .i64))], [.box [.slv [1] (.int .u8), .int .i64, .bool]]⟩
def gq98.sh1e0 : SK := ⟨[.v (.one (.bptr 0 0)), .v (.one (.int .i64))], [.box [.slv [1] (.int .u8), .int .i64, .bool]]⟩
def gq98.sh1r : SK := ⟨[.v (.one (.bptr 0 0)), .v (.one (.int .i64))], [.box [.slv [1] (.int .u8), .int .i64, .bool]]⟩
def gq98.ko1 : Ex → List CastAt × List Nat
 | .nrm => ([], [])
 | .ret => ([], [0, 4])
 | .ext i => cond (Nat.beq i 0) ([], [0, 5]) ([], [])
def gq98.G1 (n : Nat) (R : Type) (t : gq98.sh1.T) (K : Ex → Kp → Option R) : Option R := gq98.l1 (fun y0 y1 y2 y3 => K (.ext 0) (SK.enc gq98.sh1e0 (((), y0, ()), ((y1, y2, y3, ()), ())))) (fun y0 y1 y2 y3 => K .ret (SK.enc gq98.sh1r (((), y0, ()), ((y1, y2, y3, ()), ())))) n t.1.2.1 t.1.2.2.1 t.1.2.2.2.1 t.2.1.1 t.2.1.2.1 t.2.1.2.2.1
def gq98.S1 : Sum := ⟨([], [0, 1, 5, 6]), sumF gq98.sh1 (gq98.G1 fuel), gq98.ko1⟩
theorem gq98.ok1 (hE : EOk Tryz.prog (gq98.E)) : SumOk Tryz.prog gq98.E (cB (cR (cL (cR (cR (bodyOf Tryz.f98)))))) (gq98.S1) := by
 have hh : HintOk Tryz.prog gq98.E (cB (cB (cR (cL (cR (cR (bodyOf Tryz.f98))))))) (.a) := HintOk.n1 (Q := True) (by kernel_rfl) trivial
 have h := loopS (kin := ([], [0, 1, 5, 6])) (kout := gq98.ko1) (sh := gq98.sh1) (F := gq98.G1) (ops_ok (hE.gv _)) (by kernel_rfl) hh (fun _ _ _ => rfl) (fun n R t K => by kernel_rfl) fuel
 exact HintOk.n1 (c := (cB (cR (cL (cR (cR (bodyOf Tryz.f98))))))) (h := .s (gq98.S1)) (P := Tryz.prog) (E := gq98.E) (by kernel_rfl) h
theorem gq98.hok (hE : EOk Tryz.prog (gq98.E)) : HintOk Tryz.prog gq98.E (bodyOf Tryz.f98) (.n (.a) (.n (.a) (.n (.n (.a) (.b (.s (gq98.S1)))) (.a)))) := HintOk.n1 (Q := (True) ∧ ((True) ∧ (((True) ∧ (SumOk Tryz.prog gq98.E (cB (cR (cL (cR (cR (bodyOf Tryz.f98)))))) (gq98.S1))) ∧ (True)))) (by kernel_rfl) ⟨trivial, ⟨trivial, ⟨⟨trivial, (gq98.ok1 hE)⟩, trivial⟩⟩⟩
theorem gq98.hE : EOk Tryz.prog (gq98.E) := EOk.of ttOk (trivial)
theorem gq98.fok : FOk Tryz.prog 98 gq98.fi :=
 fokS (E := gq98.E) (wy := ⟨[[none]], [[some ((.int .u8), false), none, none], []], []⟩) (h := (fun gs => .n (.a) (.n (.a) (.n (.n (.a) (.b (.s (gq98.S1)))) (.a))))) (G := fun t g => gq98.F (fun y0 y1 y2 y3 => g (y0, y1, y2, y3)) t.1.1 t.1.2.1 t.1.2.2.1 t.2.1) (by kernel_rfl) gq98.hE Tryz.func98 (by kernel_rfl) rfl (Nat.le_refl _) (fun t => HintOk.n1 (by kernel_rfl) (gq98.hok gq98.hE)) (fun t g => gq98.F_nat g (fun y0 y1 y2 y3 => some (y0, y1, y2, y3)) _ _ _ _) (fun t => by kernel_rfl)
def gq94.j1 {R : Type} (kkn : Int → ByteArray → Int → Bool → Int → List (El kFile) → Int → Int → Int → Int → List Int → List ByteArray → List ByteArray → List ByteArray → Option R) (kkr : Int → Int → Int → List ByteArray → List ByteArray → Option R) (i : Int) (data : ByteArray) (good : Int) (code : Int) (last : Bool) (d : Int) (d1 : List (El kFile)) (i1 : Int) (i2 : Int) (w : Int) (w1 : Int) (list : List Int) (frames : List ByteArray) (l : List ByteArray) (l1 : List ByteArray) : Option R :=
 cond (code == (8 : Int)) (kkr (8 : Int) w w1 l l1) (
  cond (code == (16 : Int)) (
   cond (!last) (kkr (8 : Int) w w1 l l1) (kkn i data good last d d1 i1 i2 w w1 list frames l l1)) (kkn i data good last d d1 i1 i2 w w1 list frames l l1))
theorem gq94.j1_nat {R S : Type} (g : R → Option S) (kkn : Int → ByteArray → Int → Bool → Int → List (El kFile) → Int → Int → Int → Int → List Int → List ByteArray → List ByteArray → List ByteArray → Option R) (kkr : Int → Int → Int → List ByteArray → List ByteArray → Option R) (i data good code last d d1 i1 i2 w w1 list frames l l1) : gq94.j1 (fun y0 y1 y2 y3 y4 y5 y6 y7 y8 y9 y10 y11 y12 y13 => (kkn y0 y1 y2 y3 y4 y5 y6 y7 y8 y9 y10 y11 y12 y13).bind g) (fun y0 y1 y2 y3 y4 => (kkr y0 y1 y2 y3 y4).bind g) i data good code last d d1 i1 i2 w w1 list frames l l1 = (gq94.j1 kkn kkr i data good code last d d1 i1 i2 w w1 list frames l l1).bind g := by
 simp only [gq94.j1, grd_bind, cnd_bind, bnd_bind, non_bind]
def gq94.j2 {R : Type} (kkn : Int → ByteArray → Int → Bool → Int → List (El kFile) → Int → Int → Int → Int → List Int → List ByteArray → List ByteArray → List ByteArray → Option R) (kkr : Int → Int → Int → List ByteArray → List ByteArray → Option R) (i : Int) (data : ByteArray) (good : Int) (last : Bool) (d : Int) (d1 : List (El kFile)) (i1 : Int) (i2 : Int) (w : Int) (w1 : Int) (list : List Int) (frames : List ByteArray) (l : List ByteArray) (l1 : List ByteArray) : Option R :=
 cond (decide (i > (0 : Int))) (
  grd (gIx i (List.length list)) <|
  grd (gIx (IntKind.wrap .i64 (i - (1 : Int))) (List.length list)) <|
  cond ((rdE (.int .i64 : Kd) list (Int.toNat i)) != (IntKind.wrap .i64 ((rdE (.int .i64 : Kd) list (Int.toNat (IntKind.wrap .i64 (i - (1 : Int))))) + (1 : Int)))) (kkr (3 : Int) w w1 l l1) (kkn i data good last d d1 i1 i2 w w1 list frames l l1)) (kkn i data good last d d1 i1 i2 w w1 list frames l l1)
theorem gq94.j2_nat {R S : Type} (g : R → Option S) (kkn : Int → ByteArray → Int → Bool → Int → List (El kFile) → Int → Int → Int → Int → List Int → List ByteArray → List ByteArray → List ByteArray → Option R) (kkr : Int → Int → Int → List ByteArray → List ByteArray → Option R) (i data good last d d1 i1 i2 w w1 list frames l l1) : gq94.j2 (fun y0 y1 y2 y3 y4 y5 y6 y7 y8 y9 y10 y11 y12 y13 => (kkn y0 y1 y2 y3 y4 y5 y6 y7 y8 y9 y10 y11 y12 y13).bind g) (fun y0 y1 y2 y3 y4 => (kkr y0 y1 y2 y3 y4).bind g) i data good last d d1 i1 i2 w w1 list frames l l1 = (gq94.j2 kkn kkr i data good last d d1 i1 i2 w w1 list frames l l1).bind g := by
 simp only [gq94.j2, grd_bind, cnd_bind, bnd_bind, non_bind]
def gq94.j3 {R : Type} (kkn : Int → ByteArray → Int → Int → List (El kFile) → Int → Int → Int → Int → List Int → List ByteArray → List ByteArray → List ByteArray → Option R) (kkr : Int → Int → Int → List ByteArray → List ByteArray → Option R) (i : Int) (data : ByteArray) (good : Int) (first : Int) (d : Int) (d1 : List (El kFile)) (i1 : Int) (i2 : Int) (w : Int) (w1 : Int) (list : List Int) (frames : List ByteArray) (l : List ByteArray) (l1 : List ByteArray) : Option R :=
 cond (i == (0 : Int)) (kkn i data good d d1 i1 i2 first w1 list frames l l1) (
  cond (first != (IntKind.wrap .i64 (w + (List.length l : Int)))) (kkr (3 : Int) w w1 l l1) (kkn i data good d d1 i1 i2 w w1 list frames l l1))
theorem gq94.j3_nat {R S : Type} (g : R → Option S) (kkn : Int → ByteArray → Int → Int → List (El kFile) → Int → Int → Int → Int → List Int → List ByteArray → List ByteArray → List ByteArray → Option R) (kkr : Int → Int → Int → List ByteArray → List ByteArray → Option R) (i data good first d d1 i1 i2 w w1 list frames l l1) : gq94.j3 (fun y0 y1 y2 y3 y4 y5 y6 y7 y8 y9 y10 y11 y12 => (kkn y0 y1 y2 y3 y4 y5 y6 y7 y8 y9 y10 y11 y12).bind g) (fun y0 y1 y2 y3 y4 => (kkr y0 y1 y2 y3 y4).bind g) i data good first d d1 i1 i2 w w1 list frames l l1 = (gq94.j3 kkn kkr i data good first d d1 i1 i2 w w1 list frames l l1).bind g := by
 simp only [gq94.j3, grd_bind, cnd_bind, bnd_bind, non_bind]
def gq94.l4 {R : Type} (kke0 : Int → Int → Int → Int → List ByteArray → List ByteArray → Option R) (kkr : Int → Int → Int → List ByteArray → List ByteArray → Option R) : Nat → Int → Int → List (El kFile) → Int → Int → Int → Int → List Int → List ByteArray → List ByteArray → Option R
 | 0, _, _, _, _, _, _, _, _, _, _ => none
 | n + 1, i, d, d1, i1, i2, w, w1, list, l, l1 =>
  cond (decide (i < (List.length list : Int))) (
   grd (gIx i (List.length list)) <|
   (gq96 d d1 (rdE (.int .i64 : Kd) list (Int.toNat i))).bind fun r =>
   (gq97 (bytesL r)).bind fun r1 =>
   gq94.j1 (fun i3 data good last d2 d3 i4 i5 w2 w3 list1 frames l2 l3 =>
    gq94.j2 (fun i6 data1 good1 last1 d4 d5 i7 i8 w4 w5 list2 frames1 l4 l5 =>
     cond ((List.length frames1 : Int) == (0 : Int)) (
      cond (!last1) (kkr (3 : Int) w4 w5 l4 l5) (
       grd (gIx i6 (List.length list2)) <|
       (gq99 (rdE (.int .i64 : Kd) list2 (Int.toNat i6))).bind fun r2 =>
       grd (gRm (((List.length l5) + (List.length [r2])) * 16)) <|
       kkr (0 : Int) w4 (ByteArray.size data1 : Int) l4 (l5 ++ [r2]))) (
      grd (gIx (0 : Int) (List.length frames1)) <|
      cond ((ByteArray.size (rdE (.str : Kd) frames1 (Int.toNat (0 : Int))) : Int) != (4 : Int)) (kkr (3 : Int) w4 w5 l4 l5) (
       grd (gIx (0 : Int) (List.length frames1)) <|
       (gq98 (bytesL (rdE (.str : Kd) frames1 (Int.toNat (0 : Int)))) (0 : Int) false (4 : Int)).bind fun r3 =>
       gq94.j3 (fun i9 data2 good2 d6 d7 i10 i11 w6 w7 list3 frames2 l6 l7 =>
        grd (gIx i9 (List.length list3)) <|
        (gq99 (rdE (.int .i64 : Kd) list3 (Int.toNat i9))).bind fun r4 =>
        grd (gRm (((List.length l7) + (List.length [r4])) * 16)) <|
        grd (gSl (1 : Int) (List.length frames2 : Int) (List.length frames2)) <|
        grd (gRm (((List.length l6) + (List.length (sub frames2 (1 : Int) (List.length frames2 : Int)))) * 16)) <|
        gq94.l4 kke0 kkr n (IntKind.wrap .i64 (i9 + (1 : Int))) d6 d7 i10 i11 w6 (IntKind.wrap .i64 ((ByteArray.size data2 : Int) - good2)) list3 (l6 ++ (sub frames2 (1 : Int) (List.length frames2 : Int))) (l7 ++ [r4])) (fun i12 i13 i14 l8 l9 => kkr i12 i13 i14 l8 l9) i6 data1 good1 r3.1 d4 d5 i7 i8 w4 w5 list2 frames1 l4 l5))) (fun i15 i16 i17 l10 l11 => kkr i15 i16 i17 l10 l11) i3 data good last d2 d3 i4 i5 w2 w3 list1 frames l2 l3) (fun i18 i19 i20 l12 l13 => kkr i18 i19 i20 l12 l13) i r r1.2.1 r1.2.2 (i == (IntKind.wrap .i64 ((List.length list : Int) - (1 : Int)))) d d1 i1 i2 w w1 list r1.1 l l1) (kke0 i1 i2 w w1 l l1)
theorem gq94.l4_nat {R S : Type} (g : R → Option S) (kke0 : Int → Int → Int → Int → List ByteArray → List ByteArray → Option R) (kkr : Int → Int → Int → List ByteArray → List ByteArray → Option R) : ∀ n i d d1 i1 i2 w w1 list l l1, gq94.l4 (fun y0 y1 y2 y3 y4 y5 => (kke0 y0 y1 y2 y3 y4 y5).bind g) (fun y0 y1 y2 y3 y4 => (kkr y0 y1 y2 y3 y4).bind g) n i d d1 i1 i2 w w1 list l l1 = (gq94.l4 kke0 kkr n i d d1 i1 i2 w w1 list l l1).bind g := by
 intro n
 induction n with
 | zero => intros; rfl
 | succ n ih => intros; simp only [gq94.l4, grd_bind, cnd_bind, bnd_bind, non_bind, ← gq94.j1_nat, ← gq94.j2_nat, ← gq94.j3_nat, ih]
def gq94.F {R : Type} (kk : Int → List ByteArray → List ByteArray → Int → Int → Option R) (d_Room : Int) (d_Files : List (El kFile)) : Option R :=
 (gq95 d_Room d_Files).bind fun r =>
 gq94.l4 (fun i i1 w w1 l l1 => kk w l l1 w1 (0 : Int)) (fun i2 i3 i4 l2 l3 => kk i3 l2 l3 i4 i2) fuel (0 : Int) d_Room d_Files (0 : Int) (0 : Int) (0 : Int) (0 : Int) r ([] : List ByteArray) ([] : List ByteArray)
theorem gq94.F_nat {R S : Type} (g : R → Option S) (kk : Int → List ByteArray → List ByteArray → Int → Int → Option R) (d_Room d_Files) : gq94.F (fun y0 y1 y2 y3 y4 => (kk y0 y1 y2 y3 y4).bind g) d_Room d_Files = (gq94.F kk d_Room d_Files).bind g := by
 simp only [gq94.F, grd_bind, cnd_bind, bnd_bind, non_bind, ← gq94.l4_nat]
def gq94 (d_Room : Int) (d_Files : List (El kFile)) : Option (Int × List ByteArray × List ByteArray × Int × Int) := gq94.F (fun y0 y1 y2 y3 y4 => some (y0, y1, y2, y3, y4)) d_Room d_Files
def gq94.out : (Int × List ByteArray × List ByteArray × Int × Int) → CRes := fun a => ⟨encL SV.enc [.agg [.int .i64, .own [] .str true, .own [] .str true, .int .i64], .one (.int .i64)] ((a.1, a.2.1, a.2.2.1, a.2.2.2.1, ()), a.2.2.2.2, ()), [encL SC.enc [] ()]⟩
def gq94.ps : List PS := [.val [none, some (kFile, false)]]
def gq94.sA : List SA := [.v (.agg [.int .i64, .slv [] kFile])]
def gq94.fi : FI := FIs gq94.sA (Int × List ByteArray × List ByteArray × Int × Int) (fun t => gq94 t.1.1 t.1.2.1) gq94.out gq94.ps
def gq94.E : Env := ⟨tt, lkF [(95, gq95.fi), (96, gq96.fi), (97, gq97.fi), (98, gq98.fi), (99, gq99.fi)], 139, 0, [], []⟩
def gq94.sh1 : SK := ⟨[.v (.one (.bptr 0 0)), .v (.one (.bptr 1 0)), .v (.one (.bptr 2 0)), .v (.one (.slo 3)), .v (.one (.int .i64)), .v (.one (.str)), .v (.one (.slo 4)), .v (.one (.int .i64)), .v (.one (.int .i64)), .v (.one (.bool))], [.box [.int .i64, .slv [1] kFile], .box [.int .i64, .nil, .nil, .int .i64], .box [.int .i64, .slo 5, .slo 6, .int .i64], .arr (.int .i64) [] true, .arr .str [] true, .arr .str [] true, .arr .str [] true]⟩
def gq94.sh1n : SK := ⟨[.v (.one (.bptr 0 0)), .v (.one (.bptr 1 0)), .v (.one (.bptr 2 0)), .v (.one (.slo 3)), .v (.one (.int .i64)), .v (.one (.str)), .v (.one (.slo 4)), .v (.one (.int .i64)), .v (.one (.bool))], [.box [.int .i64, .slv [1] kFile], .box [.int .i64, .nil, .nil, .int .i64], .box [.int .i64, .slo 5, .slo 6, .int .i64], .arr (.int .i64) [] true, .arr .str [] true, .arr .str [] true, .arr .str [] true]⟩
def gq94.sh1r : SK := ⟨[.v (.one (.bptr 0 0)), .v (.one (.int .i64))], [.box [.int .i64, .slo 1, .slo 2, .int .i64], .arr .str [] true, .arr .str [] true]⟩
def gq94.ko1 : Ex → List CastAt × List Nat
 | .nrm => ([], [1, 2, 4, 5, 6, 7, 8, 9, 11])
 | .ret => ([], [2, 3])
 | .ext i => ([], [])
def gq94.G1 (R : Type) (t : gq94.sh1.T) (K : Ex → Kp → Option R) : Option R := gq94.j1 (fun y0 y1 y2 y3 y4 y5 y6 y7 y8 y9 y10 y11 y12 y13 => K .nrm (SK.enc gq94.sh1n (((), (), (), (), y0, y1, (), y2, y3, ()), ((y4, y5, ()), (y6, (), (), y7, ()), (y8, (), (), y9, ()), y10, y11, y12, y13, ())))) (fun y0 y1 y2 y3 y4 => K .ret (SK.enc gq94.sh1r (((), y0, ()), ((y1, (), (), y2, ()), y3, y4, ())))) t.1.2.2.2.2.1 t.1.2.2.2.2.2.1 t.1.2.2.2.2.2.2.2.1 t.1.2.2.2.2.2.2.2.2.1 t.1.2.2.2.2.2.2.2.2.2.1 t.2.1.1 t.2.1.2.1 t.2.2.1.1 t.2.2.1.2.2.2.1 t.2.2.2.1.1 t.2.2.2.1.2.2.2.1 t.2.2.2.2.1 t.2.2.2.2.2.1 t.2.2.2.2.2.2.1 t.2.2.2.2.2.2.2.1
def gq94.S1 : Sum := ⟨([], [1, 2, 4, 5, 6, 7, 8, 9, 10, 11]), sumF gq94.sh1 (gq94.G1), gq94.ko1⟩
theorem gq94.ok1 (hE : EOk Tryz.prog (gq94.E)) : SumOk Tryz.prog gq94.E (cL (cR (cR (cR (cB (cL (cR (cB (cB (cR (cL (cR (cR (cR (bodyOf Tryz.f94))))))))))))))) (gq94.S1) := by
 have hh : HintOk Tryz.prog gq94.E (cL (cR (cR (cR (cB (cL (cR (cB (cB (cR (cL (cR (cR (cR (bodyOf Tryz.f94))))))))))))))) (.a) := HintOk.n1 (Q := True) (by kernel_rfl) trivial
 exact sumS (kin := ([], [1, 2, 4, 5, 6, 7, 8, 9, 10, 11])) (kout := gq94.ko1) (sh := gq94.sh1) (F := gq94.G1) (ops_ok (hE.gv _)) (by kernel_rfl) hh (fun R t K => by kernel_rfl)
def gq94.sh2 : SK := ⟨[.v (.one (.bptr 0 0)), .v (.one (.bptr 1 0)), .v (.one (.bptr 2 0)), .v (.one (.slo 3)), .v (.one (.int .i64)), .v (.one (.str)), .v (.one (.slo 4)), .v (.one (.int .i64)), .v (.one (.bool))], [.box [.int .i64, .slv [1] kFile], .box [.int .i64, .nil, .nil, .int .i64], .box [.int .i64, .slo 5, .slo 6, .int .i64], .arr (.int .i64) [] true, .arr .str [] true, .arr .str [] true, .arr .str [] true]⟩
def gq94.sh2n : SK := ⟨[.v (.one (.bptr 0 0)), .v (.one (.bptr 1 0)), .v (.one (.bptr 2 0)), .v (.one (.slo 3)), .v (.one (.int .i64)), .v (.one (.str)), .v (.one (.slo 4)), .v (.one (.int .i64)), .v (.one (.bool))], [.box [.int .i64, .slv [1] kFile], .box [.int .i64, .nil, .nil, .int .i64], .box [.int .i64, .slo 5, .slo 6, .int .i64], .arr (.int .i64) [] true, .arr .str [] true, .arr .str [] true, .arr .str [] true]⟩
def gq94.sh2r : SK := ⟨[.v (.one (.bptr 0 0)), .v (.one (.int .i64))], [.box [.int .i64, .slo 1, .slo 2, .int .i64], .arr .str [] true, .arr .str [] true]⟩
def gq94.ko2 : Ex → List CastAt × List Nat
 | .nrm => ([], [1, 2, 4, 5, 6, 7, 8, 9, 11])
 | .ret => ([], [2, 3])
 | .ext i => ([], [])
def gq94.G2 (R : Type) (t : gq94.sh2.T) (K : Ex → Kp → Option R) : Option R := gq94.j2 (fun y0 y1 y2 y3 y4 y5 y6 y7 y8 y9 y10 y11 y12 y13 => K .nrm (SK.enc gq94.sh2n (((), (), (), (), y0, y1, (), y2, y3, ()), ((y4, y5, ()), (y6, (), (), y7, ()), (y8, (), (), y9, ()), y10, y11, y12, y13, ())))) (fun y0 y1 y2 y3 y4 => K .ret (SK.enc gq94.sh2r (((), y0, ()), ((y1, (), (), y2, ()), y3, y4, ())))) t.1.2.2.2.2.1 t.1.2.2.2.2.2.1 t.1.2.2.2.2.2.2.2.1 t.1.2.2.2.2.2.2.2.2.1 t.2.1.1 t.2.1.2.1 t.2.2.1.1 t.2.2.1.2.2.2.1 t.2.2.2.1.1 t.2.2.2.1.2.2.2.1 t.2.2.2.2.1 t.2.2.2.2.2.1 t.2.2.2.2.2.2.1 t.2.2.2.2.2.2.2.1
def gq94.S2 : Sum := ⟨([], [1, 2, 4, 5, 6, 7, 8, 9, 11]), sumF gq94.sh2 (gq94.G2), gq94.ko2⟩
theorem gq94.ok2 (hE : EOk Tryz.prog (gq94.E)) : SumOk Tryz.prog gq94.E (cL (cR (cR (cR (cR (cB (cL (cR (cB (cB (cR (cL (cR (cR (cR (bodyOf Tryz.f94)))))))))))))))) (gq94.S2) := by
 have hh : HintOk Tryz.prog gq94.E (cL (cR (cR (cR (cR (cB (cL (cR (cB (cB (cR (cL (cR (cR (cR (bodyOf Tryz.f94)))))))))))))))) (.a) := HintOk.n1 (Q := True) (by kernel_rfl) trivial
 exact sumS (kin := ([], [1, 2, 4, 5, 6, 7, 8, 9, 11])) (kout := gq94.ko2) (sh := gq94.sh2) (F := gq94.G2) (ops_ok (hE.gv _)) (by kernel_rfl) hh (fun R t K => by kernel_rfl)
def gq94.sh3 : SK := ⟨[.v (.one (.bptr 0 0)), .v (.one (.bptr 1 0)), .v (.one (.bptr 2 0)), .v (.one (.slo 3)), .v (.one (.int .i64)), .v (.one (.str)), .v (.one (.slo 4)), .v (.one (.int .i64)), .v (.one (.int .i64))], [.box [.int .i64, .slv [1] kFile], .box [.int .i64, .nil, .nil, .int .i64], .box [.int .i64, .slo 5, .slo 6, .int .i64], .arr (.int .i64) [] true, .arr .str [] true, .arr .str [] true, .arr .str [] true]⟩
def gq94.sh3n : SK := ⟨[.v (.one (.bptr 0 0)), .v (.one (.bptr 1 0)), .v (.one (.bptr 2 0)), .v (.one (.slo 3)), .v (.one (.int .i64)), .v (.one (.str)), .v (.one (.slo 4)), .v (.one (.int .i64))], [.box [.int .i64, .slv [1] kFile], .box [.int .i64, .nil, .nil, .int .i64], .box [.int .i64, .slo 5, .slo 6, .int .i64], .arr (.int .i64) [] true, .arr .str [] true, .arr .str [] true, .arr .str [] true]⟩
def gq94.sh3r : SK := ⟨[.v (.one (.bptr 0 0)), .v (.one (.int .i64))], [.box [.int .i64, .slo 1, .slo 2, .int .i64], .arr .str [] true, .arr .str [] true]⟩
def gq94.ko3 : Ex → List CastAt × List Nat
 | .nrm => ([], [1, 2, 4, 5, 6, 7, 8, 9])
 | .ret => ([], [2, 3])
 | .ext i => ([], [])
def gq94.G3 (R : Type) (t : gq94.sh3.T) (K : Ex → Kp → Option R) : Option R := gq94.j3 (fun y0 y1 y2 y3 y4 y5 y6 y7 y8 y9 y10 y11 y12 => K .nrm (SK.enc gq94.sh3n (((), (), (), (), y0, y1, (), y2, ()), ((y3, y4, ()), (y5, (), (), y6, ()), (y7, (), (), y8, ()), y9, y10, y11, y12, ())))) (fun y0 y1 y2 y3 y4 => K .ret (SK.enc gq94.sh3r (((), y0, ()), ((y1, (), (), y2, ()), y3, y4, ())))) t.1.2.2.2.2.1 t.1.2.2.2.2.2.1 t.1.2.2.2.2.2.2.2.1 t.1.2.2.2.2.2.2.2.2.1 t.2.1.1 t.2.1.2.1 t.2.2.1.1 t.2.2.1.2.2.2.1 t.2.2.2.1.1 t.2.2.2.1.2.2.2.1 t.2.2.2.2.1 t.2.2.2.2.2.1 t.2.2.2.2.2.2.1 t.2.2.2.2.2.2.2.1
def gq94.S3 : Sum := ⟨([], [1, 2, 4, 5, 6, 7, 8, 9, 13]), sumF gq94.sh3 (gq94.G3), gq94.ko3⟩
theorem gq94.ok3 (hE : EOk Tryz.prog (gq94.E)) : SumOk Tryz.prog gq94.E (cL (cR (cR (cR (cR (cR (cR (cR (cR (cR (cB (cL (cR (cB (cB (cR (cL (cR (cR (cR (bodyOf Tryz.f94))))))))))))))))))))) (gq94.S3) := by
 have hh : HintOk Tryz.prog gq94.E (cL (cR (cR (cR (cR (cR (cR (cR (cR (cR (cB (cL (cR (cB (cB (cR (cL (cR (cR (cR (bodyOf Tryz.f94))))))))))))))))))))) (.a) := HintOk.n1 (Q := True) (by kernel_rfl) trivial
 exact sumS (kin := ([], [1, 2, 4, 5, 6, 7, 8, 9, 13])) (kout := gq94.ko3) (sh := gq94.sh3) (F := gq94.G3) (ops_ok (hE.gv _)) (by kernel_rfl) hh (fun R t K => by kernel_rfl)
def gq94.sh4 : SK := ⟨[.v (.one (.bptr 0 0)), .v (.one (.bptr 1 0)), .v (.one (.bptr 2 0)), .v (.one (.slo 3)), .v (.one (.int .i64))], [.box [.int .i64, .slv [1] kFile], .box [.int .i64, .nil, .nil, .int .i64], .box [.int .i64, .slo 4, .slo 5, .int .i64], .arr (.int .i64) [] true, .arr .str [] true, .arr .str [] true]⟩
def gq94.sh4e0 : SK := ⟨[.v (.one (.bptr 0 0)), .v (.one (.bptr 1 0))], [.box [.int .i64, .nil, .nil, .int .i64], .box [.int .i64, .slo 2, .slo 3, .int .i64], .arr .str [] true, .arr .str [] true]⟩
def gq94.sh4r : SK := ⟨[.v (.one (.bptr 0 0)), .v (.one (.int .i64))], [.box [.int .i64, .slo 1, .slo 2, .int .i64], .arr .str [] true, .arr .str [] true]⟩
def gq94.ko4 : Ex → List CastAt × List Nat
 | .nrm => ([], [])
 | .ret => ([], [2, 3])
 | .ext i => cond (Nat.beq i 0) ([], [2, 4]) ([], [])
def gq94.G4 (n : Nat) (R : Type) (t : gq94.sh4.T) (K : Ex → Kp → Option R) : Option R := gq94.l4 (fun y0 y1 y2 y3 y4 y5 => K (.ext 0) (SK.enc gq94.sh4e0 (((), (), ()), ((y0, (), (), y1, ()), (y2, (), (), y3, ()), y4, y5, ())))) (fun y0 y1 y2 y3 y4 => K .ret (SK.enc gq94.sh4r (((), y0, ()), ((y1, (), (), y2, ()), y3, y4, ())))) n t.1.2.2.2.2.1 t.2.1.1 t.2.1.2.1 t.2.2.1.1 t.2.2.1.2.2.2.1 t.2.2.2.1.1 t.2.2.2.1.2.2.2.1 t.2.2.2.2.1 t.2.2.2.2.2.1 t.2.2.2.2.2.2.1
def gq94.S4 : Sum := ⟨([], [1, 2, 4, 5, 6]), sumF gq94.sh4 (gq94.G4 fuel), gq94.ko4⟩
theorem gq94.ok4 (hE : EOk Tryz.prog (gq94.E)) : SumOk Tryz.prog gq94.E (cB (cR (cL (cR (cR (cR (bodyOf Tryz.f94))))))) (gq94.S4) := by
 have hh : HintOk Tryz.prog gq94.E (cB (cB (cR (cL (cR (cR (cR (bodyOf Tryz.f94)))))))) (.n (.a) (.n (.b (.n (.a) (.n (.a) (.n (.a) (.n (.s (gq94.S1)) (.n (.s (gq94.S2)) (.n (.a) (.n (.a) (.n (.a) (.n (.a) (.n (.s (gq94.S3)) (.a)))))))))))) (.a))) := HintOk.n1 (Q := (True) ∧ (((True) ∧ ((True) ∧ ((True) ∧ ((SumOk Tryz.prog gq94.E (cL (cR (cR (cR (cB (cL (cR (cB (cB (cR (cL (cR (cR (cR (bodyOf Tryz.f94))))))))))))))) (gq94.S1)) ∧ ((SumOk Tryz.prog gq94.E (cL (cR (cR (cR (cR (cB (cL (cR (cB (cB (cR (cL (cR (cR (cR (bodyOf Tryz.f94)))))))))))))))) (gq94.S2)) ∧ ((True) ∧ ((True) ∧ ((True) ∧ ((True) ∧ ((SumOk Tryz.prog gq94.E (cL (cR (cR (cR (cR (cR (cR (cR (cR (cR (cB (cL (cR (cB (cB (cR (cL (cR (cR (cR (bodyOf Tryz.f94))))))))))))))))))))) (gq94.S3)) ∧ (True))))))))))) ∧ (True))) (by kernel_rfl) ⟨trivial, ⟨⟨trivial, ⟨trivial, ⟨trivial, ⟨(gq94.ok1 hE), ⟨(gq94.ok2 hE), ⟨trivial, ⟨trivial, ⟨trivial, ⟨trivial, ⟨(gq94.ok3 hE), trivial⟩⟩⟩⟩⟩⟩⟩⟩⟩⟩, trivial⟩⟩
 have h := loopS (kin := ([], [1, 2, 4, 5, 6])) (kout := gq94.ko4) (sh := gq94.sh4) (F := gq94.G4) (ops_ok (hE.gv _)) (by kernel_rfl) hh (fun _ _ _ => rfl) (fun n R t K => by kernel_rfl) fuel
 exact HintOk.n1 (c := (cB (cR (cL (cR (cR (cR (bodyOf Tryz.f94)))))))) (h := .s (gq94.S4)) (P := Tryz.prog) (E := gq94.E) (by kernel_rfl) h
theorem gq94.hok (hE : EOk Tryz.prog (gq94.E)) : HintOk Tryz.prog gq94.E (bodyOf Tryz.f94) (.n (.a) (.n (.a) (.n (.a) (.n (.n (.a) (.b (.s (gq94.S4)))) (.a))))) := HintOk.n1 (Q := (True) ∧ ((True) ∧ ((True) ∧ (((True) ∧ (SumOk Tryz.prog gq94.E (cB (cR (cL (cR (cR (cR (bodyOf Tryz.f94))))))) (gq94.S4))) ∧ (True))))) (by kernel_rfl) ⟨trivial, ⟨trivial, ⟨trivial, ⟨⟨trivial, (gq94.ok4 hE)⟩, trivial⟩⟩⟩⟩
theorem gq94.hE : EOk Tryz.prog (gq94.E) := EOk.of ttOk (⟨gq95.fok, ⟨gq96.fok, ⟨gq97.fok, ⟨gq98.fok, ⟨gq99.fok, trivial⟩⟩⟩⟩⟩)
theorem gq94.fok : FOk Tryz.prog 94 gq94.fi :=
 fokS (E := gq94.E) (wy := ⟨[[none, some (.str, true), some (.str, true), none], [none]], [[]], []⟩) (h := (fun gs => .n (.a) (.n (.a) (.n (.a) (.n (.n (.a) (.b (.s (gq94.S4)))) (.a)))))) (G := fun t g => gq94.F (fun y0 y1 y2 y3 y4 => g (y0, y1, y2, y3, y4)) t.1.1 t.1.2.1) (by kernel_rfl) gq94.hE Tryz.func94 (by kernel_rfl) rfl (Nat.le_refl _) (fun t => HintOk.n1 (by kernel_rfl) (gq94.hok gq94.hE)) (fun t g => gq94.F_nat g (fun y0 y1 y2 y3 y4 => some (y0, y1, y2, y3, y4)) _ _) (fun t => by kernel_rfl)
def gq60.F {R : Type} (kk : Int → List ByteArray → List ByteArray → Int → Int → Option R) (d_Room : Int) (d_Files : List (El kFile)) (data : ByteArray) : Option R :=
 cond (decide ((ByteArray.size data : Int) > (65536 : Int))) (kk (0 : Int) [] [] (0 : Int) (2 : Int)) (
  (gq73 d_Room d_Files).bind fun r =>
  cond (!r) (kk (0 : Int) [] [] (0 : Int) (1 : Int)) (
   (gq59 (ByteArray.size data : Int) (1 : Int) (110 : Int)).bind fun r1 =>
   cond (!r1) (kk (0 : Int) [] [] (0 : Int) (4 : Int)) (
    (gq94 d_Room d_Files).bind fun r2 =>
    (gq95 d_Room d_Files).bind fun r3 =>
    cond (r2.2.2.2.2 != (0 : Int)) (kk r2.1 r2.2.1 r2.2.2.1 r2.2.2.2.1 r2.2.2.2.2) (
     cond (decide (r2.2.2.2.1 > (0 : Int))) (kk r2.1 r2.2.1 r2.2.2.1 r2.2.2.2.1 (16 : Int)) (
      cond (decide ((List.length r2.2.1 : Int) ≥ (60 : Int))) (kk r2.1 r2.2.1 r2.2.2.1 r2.2.2.2.1 (6 : Int)) (
       cond (decide ((List.length r3 : Int) > (0 : Int))) (
        grd (gIx (IntKind.wrap .i64 ((List.length r3 : Int) - (1 : Int))) (List.length r3)) <|
        cond ((rdE (.int .i64 : Kd) r3 (Int.toNat (IntKind.wrap .i64 ((List.length r3 : Int) - (1 : Int))))) == (99 : Int)) (kk r2.1 r2.2.1 r2.2.2.1 r2.2.2.2.1 (6 : Int)) (kk r2.1 r2.2.1 r2.2.2.1 r2.2.2.2.1 (0 : Int))) (kk r2.1 r2.2.1 r2.2.2.1 r2.2.2.2.1 (0 : Int))))))))
theorem gq60.F_nat {R S : Type} (g : R → Option S) (kk : Int → List ByteArray → List ByteArray → Int → Int → Option R) (d_Room d_Files data) : gq60.F (fun y0 y1 y2 y3 y4 => (kk y0 y1 y2 y3 y4).bind g) d_Room d_Files data = (gq60.F kk d_Room d_Files data).bind g := by
 simp only [gq60.F, grd_bind, cnd_bind, bnd_bind, non_bind]
def gq60 (d_Room : Int) (d_Files : List (El kFile)) (data : ByteArray) : Option (Int × List ByteArray × List ByteArray × Int × Int) := gq60.F (fun y0 y1 y2 y3 y4 => some (y0, y1, y2, y3, y4)) d_Room d_Files data
def gq60.out : (Int × List ByteArray × List ByteArray × Int × Int) → CRes := fun a => ⟨encL SV.enc [.agg [.int .i64, .own [] .str true, .own [] .str true, .int .i64], .one (.int .i64)] ((a.1, a.2.1, a.2.2.1, a.2.2.2.1, ()), a.2.2.2.2, ()), [encL SC.enc [] (), encL SC.enc [] ()]⟩
def gq60.ps : List PS := [.val [none, some (kFile, false)], .val [none]]
def gq60.sA : List SA := [.v (.agg [.int .i64, .slv [] kFile]), .v (.one (.str))]
def gq60.fi : FI := FIs gq60.sA (Int × List ByteArray × List ByteArray × Int × Int) (fun t => gq60 t.1.1 t.1.2.1 t.2.1) gq60.out gq60.ps
def gq60.E : Env := ⟨tt, lkF [(59, gq59.fi), (73, gq73.fi), (94, gq94.fi), (95, gq95.fi)], 60, 0, [], []⟩
theorem gq60.hok (hE : EOk Tryz.prog (gq60.E)) : HintOk Tryz.prog gq60.E (bodyOf Tryz.f60) (.a) := HintOk.n1 (Q := True) (by kernel_rfl) trivial
theorem gq60.hE : EOk Tryz.prog (gq60.E) := EOk.of ttOk (⟨gq59.fok, ⟨gq73.fok, ⟨gq94.fok, ⟨gq95.fok, trivial⟩⟩⟩⟩)
theorem gq60.fok : FOk Tryz.prog 60 gq60.fi :=
 fokS (E := gq60.E) (wy := ⟨[[none, some (.str, true), some (.str, true), none], [none]], [[], []], []⟩) (h := (fun gs => .a)) (G := fun t g => gq60.F (fun y0 y1 y2 y3 y4 => g (y0, y1, y2, y3, y4)) t.1.1 t.1.2.1 t.2.1) (by kernel_rfl) gq60.hE Tryz.func60 (by kernel_rfl) rfl (Nat.le_refl _) (fun t => HintOk.n1 (by kernel_rfl) (gq60.hok gq60.hE)) (fun t g => gq60.F_nat g (fun y0 y1 y2 y3 y4 => some (y0, y1, y2, y3, y4)) _ _ _) (fun t => by kernel_rfl)
def gq111.F {R : Type} (kk : ByteArray → Option R) (n_ : Int) : Option R :=
 (gq133 n_).bind fun r =>
 (gq110 r).bind fun r1 =>
 kk (strL r1)
theorem gq111.F_nat {R S : Type} (g : R → Option S) (kk : ByteArray → Option R) (n_) : gq111.F (fun y0 => (kk y0).bind g) n_ = (gq111.F kk n_).bind g := by
 simp only [gq111.F, grd_bind, cnd_bind, bnd_bind, non_bind]
def gq111 (n_ : Int) : Option ByteArray := gq111.F (fun y0 => some y0) n_
def gq111.out : ByteArray → CRes := fun a => ⟨encL SV.enc [.one (.str)] (a, ()), [encL SC.enc [] ()]⟩
def gq111.ps : List PS := [.val [none]]
def gq111.sA : List SA := [.v (.one (.int .i64))]
def gq111.fi : FI := FIs gq111.sA (ByteArray) (fun t => gq111 t.1) gq111.out gq111.ps
def gq111.E : Env := ⟨tt, lkF [(110, gq110.fi), (133, gq133.fi)], 7, 0, [], []⟩
theorem gq111.hok (hE : EOk Tryz.prog (gq111.E)) : HintOk Tryz.prog gq111.E (bodyOf Tryz.f111) (.a) := HintOk.n1 (Q := True) (by kernel_rfl) trivial
theorem gq111.hE : EOk Tryz.prog (gq111.E) := EOk.of ttOk (⟨gq110.fok, ⟨gq133.fok, trivial⟩⟩)
theorem gq111.fok : FOk Tryz.prog 111 gq111.fi :=
 fokS (E := gq111.E) (wy := ⟨[[none]], [[]], []⟩) (h := (fun gs => .a)) (G := fun t g => gq111.F (fun y0 => g y0) t.1) (by kernel_rfl) gq111.hE Tryz.func111 (by kernel_rfl) rfl (Nat.le_refl _) (fun t => HintOk.n1 (by kernel_rfl) (gq111.hok gq111.hE)) (fun t g => gq111.F_nat g (fun y0 => some y0) _) (fun t => by kernel_rfl)
def gq62.j1 {R : Type} (kkn : ByteArray → Int → ByteArray → Int → List ByteArray → List ByteArray → Int → Option R) (frame : ByteArray) (n_ : Int) (text : ByteArray) (w : Int) (w1 : List ByteArray) (w2 : List ByteArray) (w3 : Int) : Option R :=
 cond ((ByteArray.size text : Int) == (0 : Int)) (
  (gq111 (IntKind.wrap .i64 (w + (List.length w1 : Int)))).bind fun r =>
  grd (gCat r frame) <|
  kkn (r ++ frame) n_ text w w1 w2 w3) (kkn frame n_ text w w1 w2 w3)
theorem gq62.j1_nat {R S : Type} (g : R → Option S) (kkn : ByteArray → Int → ByteArray → Int → List ByteArray → List ByteArray → Int → Option R) (frame n_ text w w1 w2 w3) : gq62.j1 (fun y0 y1 y2 y3 y4 y5 y6 => (kkn y0 y1 y2 y3 y4 y5 y6).bind g) frame n_ text w w1 w2 w3 = (gq62.j1 kkn frame n_ text w w1 w2 w3).bind g := by
 simp only [gq62.j1, grd_bind, cnd_bind, bnd_bind, non_bind]
def gq62.F {R : Type} (kk : List (El kka9e) → Option R) (d_Room : Int) (d_Files : List (El kFile)) (w_First : Int) (w_Records : List ByteArray) (w_Names : List ByteArray) (w_Torn : Int) (data : ByteArray) : Option R :=
 (gq110 (bytesL data)).bind fun r =>
 (gq95 d_Room d_Files).bind fun r1 =>
 cond ((List.length r1 : Int) == (0 : Int)) (
  (gq99 (1 : Int)).bind fun r2 =>
  (gq111 w_First).bind fun r3 =>
  grd (gCat r3 (strL r)) <|
  kk ([((1 : Int), ((0 : Int), (r2, (ByteArray.empty, (r3 ++ (strL r), [])))))])) (
  grd (gIx (IntKind.wrap .i64 ((List.length r1 : Int) - (1 : Int))) (List.length r1)) <|
  (gq96 d_Room d_Files (rdE (.int .i64 : Kd) r1 (Int.toNat (IntKind.wrap .i64 ((List.length r1 : Int) - (1 : Int)))))).bind fun r4 =>
  gq62.j1 (fun frame n_ text w w1 w2 w3 =>
   cond (decide ((IntKind.wrap .i64 ((ByteArray.size text : Int) + (ByteArray.size frame : Int))) ≤ (160 : Int))) (
    (gq99 n_).bind fun r5 =>
    kk ([((1 : Int), ((0 : Int), (r5, (ByteArray.empty, (frame, [])))))])) (
    (gq99 n_).bind fun r6 =>
    (gq99 (IntKind.wrap .i64 (n_ + (1 : Int)))).bind fun r7 =>
    (gq111 (IntKind.wrap .i64 (w + (List.length w1 : Int)))).bind fun r8 =>
    grd (gCat r8 frame) <|
    kk ([((2 : Int), ((0 : Int), (r6, (ByteArray.empty, (ByteArray.empty, []))))), ((1 : Int), ((0 : Int), (r7, (ByteArray.empty, (r8 ++ frame, [])))))]))) (strL r) (rdE (.int .i64 : Kd) r1 (Int.toNat (IntKind.wrap .i64 ((List.length r1 : Int) - (1 : Int))))) r4 w_First w_Records w_Names w_Torn)
theorem gq62.F_nat {R S : Type} (g : R → Option S) (kk : List (El kka9e) → Option R) (d_Room d_Files w_First w_Records w_Names w_Torn data) : gq62.F (fun y0 => (kk y0).bind g) d_Room d_Files w_First w_Records w_Names w_Torn data = (gq62.F kk d_Room d_Files w_First w_Records w_Names w_Torn data).bind g := by
 simp only [gq62.F, grd_bind, cnd_bind, bnd_bind, non_bind, ← gq62.j1_nat]
def gq62 (d_Room : Int) (d_Files : List (El kFile)) (w_First : Int) (w_Records : List ByteArray) (w_Names : List ByteArray) (w_Torn : Int) (data : ByteArray) : Option (List (El kka9e)) := gq62.F (fun y0 => some y0) d_Room d_Files w_First w_Records w_Names w_Torn data
def gq62.out : (List (El kka9e)) → CRes := fun a => ⟨encL SV.enc [.one (.own [] kka9e true)] (a, ()), [encL SC.enc [] (), encL SC.enc [] (), encL SC.enc [] ()]⟩
def gq62.ps : List PS := [.val [none, some (kFile, false)], .val [none, some (.str, false), some (.str, false), none], .val [none]]
def gq62.sA : List SA := [.v (.agg [.int .i64, .slv [] kFile]), .v (.agg [.int .i64, .slv [] .str, .slv [] .str, .int .i64]), .v (.one (.str))]
def gq62.fi : FI := FIs gq62.sA (List (El kka9e)) (fun t => gq62 t.1.1 t.1.2.1 t.2.1.1 t.2.1.2.1 t.2.1.2.2.1 t.2.1.2.2.2.1 t.2.2.1) gq62.out gq62.ps
def gq62.E : Env := ⟨tt, lkF [(95, gq95.fi), (96, gq96.fi), (99, gq99.fi), (110, gq110.fi), (111, gq111.fi)], 77, 0, [], []⟩
def gq62.sh1 : SK := ⟨[.v (.one (.bptr 0 0)), .v (.one (.str)), .v (.one (.int .i64)), .v (.one (.str))], [.box [.int .i64, .slv [2] .str, .slv [2] .str, .int .i64]]⟩
def gq62.sh1n : SK := ⟨[.v (.one (.bptr 0 0)), .v (.one (.str)), .v (.one (.int .i64)), .v (.one (.str))], [.box [.int .i64, .slv [2] .str, .slv [2] .str, .int .i64]]⟩
def gq62.ko1 : Ex → List CastAt × List Nat
 | .nrm => ([], [4, 7, 9, 10])
 | .ret => ([], [])
 | .ext i => ([], [])
def gq62.G1 (R : Type) (t : gq62.sh1.T) (K : Ex → Kp → Option R) : Option R := gq62.j1 (fun y0 y1 y2 y3 y4 y5 y6 => K .nrm (SK.enc gq62.sh1n (((), y0, y1, y2, ()), ((y3, y4, y5, y6, ()), ())))) t.1.2.1 t.1.2.2.1 t.1.2.2.2.1 t.2.1.1 t.2.1.2.1 t.2.1.2.2.1 t.2.1.2.2.2.1
def gq62.S1 : Sum := ⟨([], [4, 7, 9, 10]), sumF gq62.sh1 (gq62.G1), gq62.ko1⟩
theorem gq62.ok1 (hE : EOk Tryz.prog (gq62.E)) : SumOk Tryz.prog gq62.E (cL (cR (cR (cR (cR (cR (cR (bodyOf Tryz.f62)))))))) (gq62.S1) := by
 have hh : HintOk Tryz.prog gq62.E (cL (cR (cR (cR (cR (cR (cR (bodyOf Tryz.f62)))))))) (.a) := HintOk.n1 (Q := True) (by kernel_rfl) trivial
 exact sumS (kin := ([], [4, 7, 9, 10])) (kout := gq62.ko1) (sh := gq62.sh1) (F := gq62.G1) (ops_ok (hE.gv _)) (by kernel_rfl) hh (fun R t K => by kernel_rfl)
theorem gq62.hok (hE : EOk Tryz.prog (gq62.E)) : HintOk Tryz.prog gq62.E (bodyOf Tryz.f62) (.n (.a) (.n (.a) (.n (.a) (.n (.a) (.n (.a) (.n (.a) (.n (.s (gq62.S1)) (.a)))))))) := HintOk.n1 (Q := (True) ∧ ((True) ∧ ((True) ∧ ((True) ∧ ((True) ∧ ((True) ∧ ((SumOk Tryz.prog gq62.E (cL (cR (cR (cR (cR (cR (cR (bodyOf Tryz.f62)))))))) (gq62.S1)) ∧ (True)))))))) (by kernel_rfl) ⟨trivial, ⟨trivial, ⟨trivial, ⟨trivial, ⟨trivial, ⟨trivial, ⟨(gq62.ok1 hE), trivial⟩⟩⟩⟩⟩⟩⟩
theorem gq62.hE : EOk Tryz.prog (gq62.E) := EOk.of ttOk (⟨gq95.fok, ⟨gq96.fok, ⟨gq99.fok, ⟨gq110.fok, ⟨gq111.fok, trivial⟩⟩⟩⟩⟩)
theorem gq62.fok : FOk Tryz.prog 62 gq62.fi :=
 fokS (E := gq62.E) (wy := ⟨[[some (kka9e, true)]], [[], [], []], []⟩) (h := (fun gs => .n (.a) (.n (.a) (.n (.a) (.n (.a) (.n (.a) (.n (.a) (.n (.s (gq62.S1)) (.a))))))))) (G := fun t g => gq62.F (fun y0 => g y0) t.1.1 t.1.2.1 t.2.1.1 t.2.1.2.1 t.2.1.2.2.1 t.2.1.2.2.2.1 t.2.2.1) (by kernel_rfl) gq62.hE Tryz.func62 (by kernel_rfl) rfl (Nat.le_refl _) (fun t => HintOk.n1 (by kernel_rfl) (gq62.hok gq62.hE)) (fun t g => gq62.F_nat g (fun y0 => some y0) _ _ _ _ _ _ _) (fun t => by kernel_rfl)
def gq26.F {R : Type} (kk : List (El kka9e) → Int → Option R) (d_Room : Int) (d_Files : List (El kFile)) (data : ByteArray) : Option R :=
 cond (decide ((ByteArray.size data : Int) > (65536 : Int))) (kk ([] : List (El kka9e)) (2 : Int)) (
  (gq60 d_Room d_Files data).bind fun r =>
  cond (r.2.2.2.2 != (0 : Int)) (kk ([] : List (El kka9e)) r.2.2.2.2) (
   (gq62 d_Room d_Files r.1 r.2.1 r.2.2.1 r.2.2.2.1 data).bind fun r1 =>
   kk r1 (0 : Int)))
theorem gq26.F_nat {R S : Type} (g : R → Option S) (kk : List (El kka9e) → Int → Option R) (d_Room d_Files data) : gq26.F (fun y0 y1 => (kk y0 y1).bind g) d_Room d_Files data = (gq26.F kk d_Room d_Files data).bind g := by
 simp only [gq26.F, grd_bind, cnd_bind, bnd_bind, non_bind]
def gq26 (d_Room : Int) (d_Files : List (El kFile)) (data : ByteArray) : Option (List (El kka9e) × Int) := gq26.F (fun y0 y1 => some (y0, y1)) d_Room d_Files data
def gq26.out : (List (El kka9e) × Int) → CRes := fun a => ⟨encL SV.enc [.one (.own [] kka9e true), .one (.int .i64)] (a.1, a.2, ()), [encL SC.enc [] (), encL SC.enc [] ()]⟩
def gq26.ps : List PS := [.val [none, some (kFile, false)], .val [none]]
def gq26.sA : List SA := [.v (.agg [.int .i64, .slv [] kFile]), .v (.one (.str))]
def gq26.fi : FI := FIs gq26.sA (List (El kka9e) × Int) (fun t => gq26 t.1.1 t.1.2.1 t.2.1) gq26.out gq26.ps
def gq26.E : Env := ⟨tt, lkF [(60, gq60.fi), (62, gq62.fi)], 26, 0, [], []⟩
theorem gq26.hok (hE : EOk Tryz.prog (gq26.E)) : HintOk Tryz.prog gq26.E (bodyOf Tryz.f26) (.a) := HintOk.n1 (Q := True) (by kernel_rfl) trivial
theorem gq26.hE : EOk Tryz.prog (gq26.E) := EOk.of ttOk (⟨gq60.fok, ⟨gq62.fok, trivial⟩⟩)
theorem gq26.fok : FOk Tryz.prog 26 gq26.fi :=
 fokS (E := gq26.E) (wy := ⟨[[some (kka9e, true)], [none]], [[], []], []⟩) (h := (fun gs => .a)) (G := fun t g => gq26.F (fun y0 y1 => g (y0, y1)) t.1.1 t.1.2.1 t.2.1) (by kernel_rfl) gq26.hE Tryz.func26 (by kernel_rfl) rfl (Nat.le_refl _) (fun t => HintOk.n1 (by kernel_rfl) (gq26.hok gq26.hE)) (fun t g => gq26.F_nat g (fun y0 y1 => some (y0, y1)) _ _ _) (fun t => by kernel_rfl)
def gq101.F {R : Type} (kk : List (El kFile) → Option R) (s : List (El kFile)) : Option R :=
 cond (List.isEmpty s) (
  agree (kk []) (
   grd (gRm (((List.length ([] : List (El kFile))) + (List.length s)) * 40)) <|
   kk (([] : List (El kFile)) ++ s))) (
  grd (gRm (((List.length ([] : List (El kFile))) + (List.length s)) * 40)) <|
  kk (([] : List (El kFile)) ++ s))
theorem gq101.F_nat {R S : Type} (g : R → Option S) (kk : List (El kFile) → Option R) (s) : gq101.F (fun y0 => (kk y0).bind g) s = (gq101.F kk s).bind g := by
 cases s with
 | nil =>
  have e : ∀ {R : Type} (k : List (El kFile) → Option R), gq101.F k [] = agree (k []) (k []) := fun k => by kernel_rfl
  rw [e, e, agree_self, agree_self]
 | cons x l => simp only [gq101.F, List.isEmpty_cons, cond_false, grd_bind]
def gq101 (s : List (El kFile)) : Option (List (El kFile)) := gq101.F (fun y0 => some y0) s
def gq101.out : (List (El kFile)) → CRes := fun a => ⟨encL SV.enc [.one (.own [] kFile true)] (a, ()), [encL SC.enc [] ()]⟩
def gq101.ps : List PS := [.val [some (kFile, false)]]
def gq101.sA : List SA := [.v (.one (.slv [] kFile))]
def gq101.fi : FI := FIs gq101.sA (List (El kFile)) (fun t => gq101 t.1) gq101.out gq101.ps
def gq101.E : Env := ⟨tt, lkF [], 8, 0, [], []⟩
theorem gq101.hok (hE : EOk Tryz.prog (gq101.E)) : HintOk Tryz.prog gq101.E (bodyOf Tryz.f101) (.a) := HintOk.n1 (Q := True) (by kernel_rfl) trivial
theorem gq101.hE : EOk Tryz.prog (gq101.E) := EOk.of ttOk (trivial)
theorem gq101.fok : FOk Tryz.prog 101 gq101.fi :=
 fokS (E := gq101.E) (wy := ⟨[[some (kFile, true)]], [[]], []⟩) (h := (fun gs => .a)) (G := fun t g => gq101.F (fun y0 => g y0) t.1) (by kernel_rfl) gq101.hE Tryz.func101 (by kernel_rfl) rfl (Nat.le_refl _) (fun t => HintOk.n1 (by kernel_rfl) (gq101.hok gq101.hE)) (fun t g => gq101.F_nat g (fun y0 => some y0) _) (fun t => by kernel_rfl)
def gq53.F {R : Type} (kk : Int → List (El kFile) → Option R) (d_Room : Int) (d_Files : List (El kFile)) : Option R :=
 (gq101 d_Files).bind fun r =>
 kk d_Room r
theorem gq53.F_nat {R S : Type} (g : R → Option S) (kk : Int → List (El kFile) → Option R) (d_Room d_Files) : gq53.F (fun y0 y1 => (kk y0 y1).bind g) d_Room d_Files = (gq53.F kk d_Room d_Files).bind g := by
 simp only [gq53.F, grd_bind, cnd_bind, bnd_bind, non_bind]
def gq53 (d_Room : Int) (d_Files : List (El kFile)) : Option (Int × List (El kFile)) := gq53.F (fun y0 y1 => some (y0, y1)) d_Room d_Files
def gq53.out : (Int × List (El kFile)) → CRes := fun a => ⟨encL SV.enc [.agg [.int .i64, .own [] kFile true]] ((a.1, a.2, ()), ()), [encL SC.enc [] ()]⟩
def gq53.ps : List PS := [.val [none, some (kFile, false)]]
def gq53.sA : List SA := [.v (.agg [.int .i64, .slv [] kFile])]
def gq53.fi : FI := FIs gq53.sA (Int × List (El kFile)) (fun t => gq53 t.1.1 t.1.2.1) gq53.out gq53.ps
def gq53.E : Env := ⟨tt, lkF [(101, gq101.fi)], 9, 0, [], []⟩
theorem gq53.hok (hE : EOk Tryz.prog (gq53.E)) : HintOk Tryz.prog gq53.E (bodyOf Tryz.f53) (.a) := HintOk.n1 (Q := True) (by kernel_rfl) trivial
theorem gq53.hE : EOk Tryz.prog (gq53.E) := EOk.of ttOk (⟨gq101.fok, trivial⟩)
theorem gq53.fok : FOk Tryz.prog 53 gq53.fi :=
 fokS (E := gq53.E) (wy := ⟨[[none, some (kFile, true)]], [[]], []⟩) (h := (fun gs => .a)) (G := fun t g => gq53.F (fun y0 y1 => g (y0, y1)) t.1.1 t.1.2.1) (by kernel_rfl) gq53.hE Tryz.func53 (by kernel_rfl) rfl (Nat.le_refl _) (fun t => HintOk.n1 (by kernel_rfl) (gq53.hok gq53.hE)) (fun t g => gq53.F_nat g (fun y0 y1 => some (y0, y1)) _ _) (fun t => by kernel_rfl)
def gq104.j1 {R : Type} (kkn : ByteArray → ByteArray → Int → Bool → Bool → Int → List (El kFile) → Option R) (name : ByteArray) (data : ByteArray) (k_ : Int) (found : Bool) (d : Int) (l : List (El kFile)) : Option R :=
 cond (!found) (
  cond ((List.length l : Int) == (8 : Int)) (kkn name data k_ found true d l) (
   (gq113 d l).bind fun r =>
   kkn name data k_ found (decide ((ByteArray.size data : Int) > (IntKind.wrap .i64 (d - r)))) d l)) (
  (gq113 d l).bind fun r1 =>
  kkn name data k_ found (decide ((ByteArray.size data : Int) > (IntKind.wrap .i64 (d - r1)))) d l)
theorem gq104.j1_nat {R S : Type} (g : R → Option S) (kkn : ByteArray → ByteArray → Int → Bool → Bool → Int → List (El kFile) → Option R) (name data k_ found d l) : gq104.j1 (fun y0 y1 y2 y3 y4 y5 y6 => (kkn y0 y1 y2 y3 y4 y5 y6).bind g) name data k_ found d l = (gq104.j1 kkn name data k_ found d l).bind g := by
 simp only [gq104.j1, grd_bind, cnd_bind, bnd_bind, non_bind]
def gq104.j2 {R : Type} (kkn : ByteArray → Int → Int → List (El kFile) → Option R) (kkr : Int → Int → List (El kFile) → Option R) (name : ByteArray) (data : ByteArray) (k_ : Int) (found : Bool) (d : Int) (l : List (El kFile)) : Option R :=
 (gq114 name).bind fun r =>
 cond (!r) (kkr (1 : Int) d l) (
  gq104.j1 (fun name1 data1 k_1 found1 b d1 l1 =>
   cond (b) (kkr (7 : Int) d1 l1) (
    cond (!found1) (
     (gq149 l1 k_1 [(name1, (ByteArray.empty, (0 : Int)))]).bind fun r1 =>
     kkn data1 k_1 d1 r1) (kkn data1 k_1 d1 l1))) name data k_ found d l)
theorem gq104.j2_nat {R S : Type} (g : R → Option S) (kkn : ByteArray → Int → Int → List (El kFile) → Option R) (kkr : Int → Int → List (El kFile) → Option R) (name data k_ found d l) : gq104.j2 (fun y0 y1 y2 y3 => (kkn y0 y1 y2 y3).bind g) (fun y0 y1 y2 => (kkr y0 y1 y2).bind g) name data k_ found d l = (gq104.j2 kkn kkr name data k_ found d l).bind g := by
 simp only [gq104.j2, grd_bind, cnd_bind, bnd_bind, non_bind, ← gq104.j1_nat]
def gq104.F {R : Type} (kk : Int → Int → List (El kFile) → Option R) (d_Room : Int) (d_Files : List (El kFile)) (name : ByteArray) (data : ByteArray) : Option R :=
 (gq76 d_Room d_Files name).bind fun r =>
 gq104.j2 (fun data1 k_ d l =>
  grd (gIx k_ (List.length l)) <|
  grd (gCat (rdE kFile l (Int.toNat k_)).2.1 data1) <|
  grd (gIx k_ (List.length l)) <|
  kk (0 : Int) d (setE kFile l (Int.toNat k_) ((rdE kFile l (Int.toNat k_)).1, ((rdE kFile l (Int.toNat k_)).2.1 ++ data1, (rdE kFile l (Int.toNat k_)).2.2)))) (fun i d1 l1 => kk i d1 l1) name data r.1 r.2 d_Room d_Files
theorem gq104.F_nat {R S : Type} (g : R → Option S) (kk : Int → Int → List (El kFile) → Option R) (d_Room d_Files name data) : gq104.F (fun y0 y1 y2 => (kk y0 y1 y2).bind g) d_Room d_Files name data = (gq104.F kk d_Room d_Files name data).bind g := by
 simp only [gq104.F, grd_bind, cnd_bind, bnd_bind, non_bind, ← gq104.j2_nat]
def gq104 (d_Room : Int) (d_Files : List (El kFile)) (name : ByteArray) (data : ByteArray) : Option (Int × Int × List (El kFile)) := gq104.F (fun y0 y1 y2 => some (y0, y1, y2)) d_Room d_Files name data
def gq104.out : (Int × Int × List (El kFile)) → CRes := fun a => ⟨encL SV.enc [.one (.int .i64)] (a.1, ()), [encL SC.enc [.int .i64, .own [] kFile true] (a.2.1, a.2.2, ()), encL SC.enc [] (), encL SC.enc [] ()]⟩
def gq104.ps : List PS := [.ptr [none, some (kFile, true)], .val [none], .val [none]]
def gq104.sA : List SA := [.ptr [.int .i64, .own [] kFile true], .v (.one (.str)), .v (.one (.str))]
def gq104.fi : FI := FIs gq104.sA (Int × Int × List (El kFile)) (fun t => gq104 t.1.1 t.1.2.1 t.2.1 t.2.2.1) gq104.out gq104.ps
def gq104.E : Env := ⟨tt, lkF [(76, gq76.fi), (113, gq113.fi), (114, gq114.fi), (149, gq149.fi)], 73, 1, [], []⟩
def gq104.sh1 : SK := ⟨[.v (.one (.bptr 0 0)), .v (.one (.str)), .v (.one (.str)), .v (.one (.int .i64)), .v (.one (.bool))], [.box [.int .i64, .slo 1], .arr kFile [] true]⟩
def gq104.sh1n : SK := ⟨[.v (.one (.bptr 0 0)), .v (.one (.str)), .v (.one (.str)), .v (.one (.int .i64)), .v (.one (.bool)), .v (.one (.bool))], [.box [.int .i64, .slo 1], .arr kFile [] true]⟩
def gq104.ko1 : Ex → List CastAt × List Nat
 | .nrm => ([], [0, 1, 2, 7, 8, 21])
 | .ret => ([], [])
 | .ext i => ([], [])
def gq104.G1 (R : Type) (t : gq104.sh1.T) (K : Ex → Kp → Option R) : Option R := gq104.j1 (fun y0 y1 y2 y3 y4 y5 y6 => K .nrm (SK.enc gq104.sh1n (((), y0, y1, y2, y3, y4, ()), ((y5, (), ()), y6, ())))) t.1.2.1 t.1.2.2.1 t.1.2.2.2.1 t.1.2.2.2.2.1 t.2.1.1 t.2.2.1
def gq104.S1 : Sum := ⟨([], [0, 1, 2, 7, 8]), sumF gq104.sh1 (gq104.G1), gq104.ko1⟩
theorem gq104.ok1 (hE : EOk Tryz.prog (gq104.E)) : SumOk Tryz.prog gq104.E (cL (cR (cR (cB (cL (cR (cR (bodyOf Tryz.f104)))))))) (gq104.S1) := by
 have hh : HintOk Tryz.prog gq104.E (cL (cR (cR (cB (cL (cR (cR (bodyOf Tryz.f104)))))))) (.a) := HintOk.n1 (Q := True) (by kernel_rfl) trivial
 exact sumS (kin := ([], [0, 1, 2, 7, 8])) (kout := gq104.ko1) (sh := gq104.sh1) (F := gq104.G1) (ops_ok (hE.gv _)) (by kernel_rfl) hh (fun R t K => by kernel_rfl)
def gq104.sh2 : SK := ⟨[.v (.one (.bptr 0 0)), .v (.one (.str)), .v (.one (.str)), .v (.one (.int .i64)), .v (.one (.bool))], [.box [.int .i64, .slo 1], .arr kFile [] true]⟩
def gq104.sh2n : SK := ⟨[.v (.one (.bptr 0 0)), .v (.one (.str)), .v (.one (.int .i64))], [.box [.int .i64, .slo 1], .arr kFile [] true]⟩
def gq104.sh2r : SK := ⟨[.v (.one (.bptr 0 0)), .v (.one (.int .i64))], [.box [.int .i64, .slo 1], .arr kFile [] true]⟩
def gq104.ko2 : Ex → List CastAt × List Nat
 | .nrm => ([], [0, 2, 7])
 | .ret => ([], [0, 6])
 | .ext i => ([], [])
def gq104.G2 (R : Type) (t : gq104.sh2.T) (K : Ex → Kp → Option R) : Option R := gq104.j2 (fun y0 y1 y2 y3 => K .nrm (SK.enc gq104.sh2n (((), y0, y1, ()), ((y2, (), ()), y3, ())))) (fun y0 y1 y2 => K .ret (SK.enc gq104.sh2r (((), y0, ()), ((y1, (), ()), y2, ())))) t.1.2.1 t.1.2.2.1 t.1.2.2.2.1 t.1.2.2.2.2.1 t.2.1.1 t.2.2.1
def gq104.S2 : Sum := ⟨([], [0, 1, 2, 7, 8]), sumF gq104.sh2 (gq104.G2), gq104.ko2⟩
theorem gq104.ok2 (hE : EOk Tryz.prog (gq104.E)) : SumOk Tryz.prog gq104.E (cL (cR (cR (bodyOf Tryz.f104)))) (gq104.S2) := by
 have hh : HintOk Tryz.prog gq104.E (cL (cR (cR (bodyOf Tryz.f104)))) (.b (.n (.a) (.n (.a) (.n (.s (gq104.S1)) (.a))))) := HintOk.n1 (Q := (True) ∧ ((True) ∧ ((SumOk Tryz.prog gq104.E (cL (cR (cR (cB (cL (cR (cR (bodyOf Tryz.f104)))))))) (gq104.S1)) ∧ (True)))) (by kernel_rfl) ⟨trivial, ⟨trivial, ⟨(gq104.ok1 hE), trivial⟩⟩⟩
 exact sumS (kin := ([], [0, 1, 2, 7, 8])) (kout := gq104.ko2) (sh := gq104.sh2) (F := gq104.G2) (ops_ok (hE.gv _)) (by kernel_rfl) hh (fun R t K => by kernel_rfl)
theorem gq104.hok (hE : EOk Tryz.prog (gq104.E)) : HintOk Tryz.prog gq104.E (bodyOf Tryz.f104) (.n (.a) (.n (.a) (.n (.s (gq104.S2)) (.a)))) := HintOk.n1 (Q := (True) ∧ ((True) ∧ ((SumOk Tryz.prog gq104.E (cL (cR (cR (bodyOf Tryz.f104)))) (gq104.S2)) ∧ (True)))) (by kernel_rfl) ⟨trivial, ⟨trivial, ⟨(gq104.ok2 hE), trivial⟩⟩⟩
theorem gq104.hE : EOk Tryz.prog (gq104.E) := EOk.of ttOk (⟨gq76.fok, ⟨gq113.fok, ⟨gq114.fok, ⟨gq149.fok, trivial⟩⟩⟩⟩)
theorem gq104.fok : FOk Tryz.prog 104 gq104.fi :=
 fokS (E := gq104.E) (wy := ⟨[[none]], [[none, some (kFile, true)], [], []], []⟩) (h := (fun gs => .n (.a) (.n (.a) (.n (.s (gq104.S2)) (.a))))) (G := fun t g => gq104.F (fun y0 y1 y2 => g (y0, y1, y2)) t.1.1 t.1.2.1 t.2.1 t.2.2.1) (by kernel_rfl) gq104.hE Tryz.func104 (by kernel_rfl) rfl (Nat.le_refl _) (fun t => HintOk.n1 (by kernel_rfl) (gq104.hok gq104.hE)) (fun t g => gq104.F_nat g (fun y0 y1 y2 => some (y0, y1, y2)) _ _ _ _) (fun t => by kernel_rfl)
def gq105.j1 {R : Type} (kkn : List Int → Nat → Int → Int → Int → Int → List (El kFile) → Option R) (keep : List Int) (i : Int) (f : Nat) (more : Int) (i1 : Int) (i2 : Int) (d : Int) (f1 : List (El kFile)) : Option R :=
 cond (decide (i < (List.length keep : Int))) (
  grd (gIx i (List.length keep)) <|
  kkn keep f (mx2 (0 : Int) (mn2 (rdE (.int .i64 : Kd) keep (Int.toNat i)) (IntKind.wrap .i64 ((ByteArray.size (rdE kFile f1 f).2.1 : Int) - (rdE kFile f1 f).2.2)))) i1 i2 d f1) (kkn keep f more i1 i2 d f1)
theorem gq105.j1_nat {R S : Type} (g : R → Option S) (kkn : List Int → Nat → Int → Int → Int → Int → List (El kFile) → Option R) (keep i f more i1 i2 d f1) : gq105.j1 (fun y0 y1 y2 y3 y4 y5 y6 => (kkn y0 y1 y2 y3 y4 y5 y6).bind g) keep i f more i1 i2 d f1 = (gq105.j1 kkn keep i f more i1 i2 d f1).bind g := by
 simp only [gq105.j1, grd_bind, cnd_bind, bnd_bind, non_bind]
def gq105.l2 {R : Type} (kke0 : Int → List (El kFile) → Option R) : Nat → List Int → Int → Int → Int → List (El kFile) → Option R
 | 0, _, _, _, _, _ => none
 | n + 1, keep, i, i1, d, l =>
  cond (decide (i1 < i)) (
   grd (gIx i1 (List.length l)) <|
   gq105.j1 (fun keep1 f more i2 i3 d1 f1 =>
    grd (gSl (0 : Int) (IntKind.wrap .i64 ((rdE kFile f1 f).2.2 + more)) (ByteArray.size (rdE kFile f1 f).2.1)) <|
    gq105.l2 kke0 n keep1 i2 (IntKind.wrap .i64 (i3 + (1 : Int))) d1 (setE kFile (setE kFile f1 f ((rdE kFile f1 f).1, (cut (rdE kFile f1 f).2.1 (0 : Int) (IntKind.wrap .i64 ((rdE kFile f1 f).2.2 + more)), (rdE kFile f1 f).2.2))) f ((rdE kFile (setE kFile f1 f ((rdE kFile f1 f).1, (cut (rdE kFile f1 f).2.1 (0 : Int) (IntKind.wrap .i64 ((rdE kFile f1 f).2.2 + more)), (rdE kFile f1 f).2.2))) f).1, ((rdE kFile (setE kFile f1 f ((rdE kFile f1 f).1, (cut (rdE kFile f1 f).2.1 (0 : Int) (IntKind.wrap .i64 ((rdE kFile f1 f).2.2 + more)), (rdE kFile f1 f).2.2))) f).2.1, (ByteArray.size (rdE kFile (setE kFile f1 f ((rdE kFile f1 f).1, (cut (rdE kFile f1 f).2.1 (0 : Int) (IntKind.wrap .i64 ((rdE kFile f1 f).2.2 + more)), (rdE kFile f1 f).2.2))) f).2.1 : Int))))) keep i1 (Int.toNat i1) (0 : Int) i i1 d l) (kke0 d l)
theorem gq105.l2_nat {R S : Type} (g : R → Option S) (kke0 : Int → List (El kFile) → Option R) : ∀ n keep i i1 d l, gq105.l2 (fun y0 y1 => (kke0 y0 y1).bind g) n keep i i1 d l = (gq105.l2 kke0 n keep i i1 d l).bind g := by
 intro n
 induction n with
 | zero => intros; rfl
 | succ n ih => intros; simp only [gq105.l2, grd_bind, cnd_bind, bnd_bind, non_bind, ← gq105.j1_nat, ih]
def gq105.F {R : Type} (kk : Int → List (El kFile) → Option R) (d_Room : Int) (d_Files : List (El kFile)) (keep : List Int) : Option R :=
 gq105.l2 (fun d l => kk d l) fuel keep (List.length d_Files : Int) (0 : Int) d_Room d_Files
theorem gq105.F_nat {R S : Type} (g : R → Option S) (kk : Int → List (El kFile) → Option R) (d_Room d_Files keep) : gq105.F (fun y0 y1 => (kk y0 y1).bind g) d_Room d_Files keep = (gq105.F kk d_Room d_Files keep).bind g := by
 simp only [gq105.F, grd_bind, cnd_bind, bnd_bind, non_bind, ← gq105.l2_nat]
def gq105 (d_Room : Int) (d_Files : List (El kFile)) (keep : List Int) : Option (Int × List (El kFile)) := gq105.F (fun y0 y1 => some (y0, y1)) d_Room d_Files keep
def gq105.out : (Int × List (El kFile)) → CRes := fun a => ⟨encL SV.enc [] (), [encL SC.enc [.int .i64, .own [] kFile true] (a.1, a.2, ()), encL SC.enc [] ()]⟩
def gq105.ps : List PS := [.ptr [none, some (kFile, true)], .val [some ((.int .i64), false)]]
def gq105.sA : List SA := [.ptr [.int .i64, .own [] kFile true], .v (.one (.slv [] (.int .i64)))]
def gq105.fi : FI := FIs gq105.sA (Int × List (El kFile)) (fun t => gq105 t.1.1 t.1.2.1 t.2.1) gq105.out gq105.ps
def gq105.E : Env := ⟨tt, lkF [], 64, 1, [], []⟩
def gq105.sh1 : SK := ⟨[.v (.one (.bptr 0 0)), .v (.one (.slv [2] (.int .i64))), .v (.one (.int .i64)), .v (.one (.eptr 1 3 0)), .v (.one (.int .i64)), .v (.one (.int .i64)), .v (.one (.int .i64))], [.box [.int .i64, .slo 1], .arr kFile [] true]⟩
def gq105.sh1n : SK := ⟨[.v (.one (.bptr 0 0)), .v (.one (.slv [2] (.int .i64))), .v (.one (.eptr 1 3 0)), .v (.one (.int .i64)), .v (.one (.int .i64)), .v (.one (.int .i64))], [.box [.int .i64, .slo 1], .arr kFile [] true]⟩
def gq105.ko1 : Ex → List CastAt × List Nat
 | .nrm => ([], [0, 1, 5, 6, 11, 12])
 | .ret => ([], [])
 | .ext i => ([], [])
def gq105.G1 (R : Type) (t : gq105.sh1.T) (K : Ex → Kp → Option R) : Option R := gq105.j1 (fun y0 y1 y2 y3 y4 y5 y6 => K .nrm (SK.enc gq105.sh1n (((), y0, y1, y2, y3, y4, ()), ((y5, (), ()), y6, ())))) t.1.2.1 t.1.2.2.1 t.1.2.2.2.1 t.1.2.2.2.2.1 t.1.2.2.2.2.2.1 t.1.2.2.2.2.2.2.1 t.2.1.1 t.2.2.1
def gq105.S1 : Sum := ⟨([], [0, 1, 4, 5, 6, 11, 12]), sumF gq105.sh1 (gq105.G1), gq105.ko1⟩
theorem gq105.ok1 (hE : EOk Tryz.prog (gq105.E)) : SumOk Tryz.prog gq105.E (cL (cR (cR (cB (cL (cR (cR (cB (cB (cR (bodyOf Tryz.f105))))))))))) (gq105.S1) := by
 have hh : HintOk Tryz.prog gq105.E (cL (cR (cR (cB (cL (cR (cR (cB (cB (cR (bodyOf Tryz.f105))))))))))) (.a) := HintOk.n1 (Q := True) (by kernel_rfl) trivial
 exact sumS (kin := ([], [0, 1, 4, 5, 6, 11, 12])) (kout := gq105.ko1) (sh := gq105.sh1) (F := gq105.G1) (ops_ok (hE.gv _)) (by kernel_rfl) hh (fun R t K => by kernel_rfl)
def gq105.sh2 : SK := ⟨[.v (.one (.bptr 0 0)), .v (.one (.slv [2] (.int .i64))), .v (.one (.int .i64)), .v (.one (.int .i64))], [.box [.int .i64, .slo 1], .arr kFile [] true]⟩
def gq105.sh2e0 : SK := ⟨[.v (.one (.bptr 0 0))], [.box [.int .i64, .slo 1], .arr kFile [] true]⟩
def gq105.ko2 : Ex → List CastAt × List Nat
 | .nrm => ([], [])
 | .ret => ([], [])
 | .ext i => cond (Nat.beq i 0) ([], [0]) ([], [])
def gq105.G2 (n : Nat) (R : Type) (t : gq105.sh2.T) (K : Ex → Kp → Option R) : Option R := gq105.l2 (fun y0 y1 => K (.ext 0) (SK.enc gq105.sh2e0 (((), ()), ((y0, (), ()), y1, ())))) n t.1.2.1 t.1.2.2.1 t.1.2.2.2.1 t.2.1.1 t.2.2.1
def gq105.S2 : Sum := ⟨([], [0, 1, 11, 12]), sumF gq105.sh2 (gq105.G2 fuel), gq105.ko2⟩
theorem gq105.ok2 (hE : EOk Tryz.prog (gq105.E)) : SumOk Tryz.prog gq105.E (cB (cR (bodyOf Tryz.f105))) (gq105.S2) := by
 have hh : HintOk Tryz.prog gq105.E (cB (cB (cR (bodyOf Tryz.f105)))) (.n (.a) (.n (.a) (.n (.b (.n (.a) (.n (.a) (.n (.s (gq105.S1)) (.a))))) (.a)))) := HintOk.n1 (Q := (True) ∧ ((True) ∧ (((True) ∧ ((True) ∧ ((SumOk Tryz.prog gq105.E (cL (cR (cR (cB (cL (cR (cR (cB (cB (cR (bodyOf Tryz.f105))))))))))) (gq105.S1)) ∧ (True)))) ∧ (True)))) (by kernel_rfl) ⟨trivial, ⟨trivial, ⟨⟨trivial, ⟨trivial, ⟨(gq105.ok1 hE), trivial⟩⟩⟩, trivial⟩⟩⟩
 have h := loopS (kin := ([], [0, 1, 11, 12])) (kout := gq105.ko2) (sh := gq105.sh2) (F := gq105.G2) (ops_ok (hE.gv _)) (by kernel_rfl) hh (fun _ _ _ => rfl) (fun n R t K => by kernel_rfl) fuel
 exact HintOk.n1 (c := (cB (cR (bodyOf Tryz.f105)))) (h := .s (gq105.S2)) (P := Tryz.prog) (E := gq105.E) (by kernel_rfl) h
theorem gq105.hok (hE : EOk Tryz.prog (gq105.E)) : HintOk Tryz.prog gq105.E (bodyOf Tryz.f105) (.n (.a) (.b (.s (gq105.S2)))) := HintOk.n1 (Q := (True) ∧ (SumOk Tryz.prog gq105.E (cB (cR (bodyOf Tryz.f105))) (gq105.S2))) (by kernel_rfl) ⟨trivial, (gq105.ok2 hE)⟩
theorem gq105.hE : EOk Tryz.prog (gq105.E) := EOk.of ttOk (trivial)
theorem gq105.fok : FOk Tryz.prog 105 gq105.fi :=
 fokS (E := gq105.E) (wy := ⟨[], [[none, some (kFile, true)], []], []⟩) (h := (fun gs => .n (.a) (.b (.s (gq105.S2))))) (G := fun t g => gq105.F (fun y0 y1 => g (y0, y1)) t.1.1 t.1.2.1 t.2.1) (by kernel_rfl) gq105.hE Tryz.func105 (by kernel_rfl) rfl (Nat.le_refl _) (fun t => HintOk.n1 (by kernel_rfl) (gq105.hok gq105.hE)) (fun t g => gq105.F_nat g (fun y0 y1 => some (y0, y1)) _ _ _) (fun t => by kernel_rfl)
def gq106.F {R : Type} (kk : Int → Int → List (El kFile) → Option R) (d_Room : Int) (d_Files : List (El kFile)) (k_ : Int) (to_ : ByteArray) : Option R :=
 (gq114 to_).bind fun r =>
 cond (!r) (kk (1 : Int) d_Room d_Files) (
  grd (gIx k_ (List.length d_Files)) <|
  (gq107 d_Files k_ (IntKind.wrap .i64 (k_ + (1 : Int)))).bind fun r1 =>
  (gq76 d_Room r1 to_).bind fun r2 =>
  cond (r2.2) (
   grd (gIx r2.1 (List.length r1)) <|
   kk (0 : Int) d_Room (setE kFile r1 (Int.toNat r2.1) (to_, (rdE kFile d_Files (Int.toNat k_)).2))) (
   (gq149 r1 r2.1 [(to_, (rdE kFile d_Files (Int.toNat k_)).2)]).bind fun r3 =>
   kk (0 : Int) d_Room r3))
theorem gq106.F_nat {R S : Type} (g : R → Option S) (kk : Int → Int → List (El kFile) → Option R) (d_Room d_Files k_ to_) : gq106.F (fun y0 y1 y2 => (kk y0 y1 y2).bind g) d_Room d_Files k_ to_ = (gq106.F kk d_Room d_Files k_ to_).bind g := by
 simp only [gq106.F, grd_bind, cnd_bind, bnd_bind, non_bind]
def gq106 (d_Room : Int) (d_Files : List (El kFile)) (k_ : Int) (to_ : ByteArray) : Option (Int × Int × List (El kFile)) := gq106.F (fun y0 y1 y2 => some (y0, y1, y2)) d_Room d_Files k_ to_
def gq106.out : (Int × Int × List (El kFile)) → CRes := fun a => ⟨encL SV.enc [.one (.int .i64)] (a.1, ()), [encL SC.enc [.int .i64, .own [] kFile true] (a.2.1, a.2.2, ()), encL SC.enc [] (), encL SC.enc [] ()]⟩
def gq106.ps : List PS := [.ptr [none, some (kFile, true)], .val [none], .val [none]]
def gq106.sA : List SA := [.ptr [.int .i64, .own [] kFile true], .v (.one (.int .i64)), .v (.one (.str))]
def gq106.fi : FI := FIs gq106.sA (Int × Int × List (El kFile)) (fun t => gq106 t.1.1 t.1.2.1 t.2.1 t.2.2.1) gq106.out gq106.ps
def gq106.E : Env := ⟨tt, lkF [(76, gq76.fi), (107, gq107.fi), (114, gq114.fi), (149, gq149.fi)], 60, 1, [], []⟩
theorem gq106.hok (hE : EOk Tryz.prog (gq106.E)) : HintOk Tryz.prog gq106.E (bodyOf Tryz.f106) (.a) := HintOk.n1 (Q := True) (by kernel_rfl) trivial
theorem gq106.hE : EOk Tryz.prog (gq106.E) := EOk.of ttOk (⟨gq76.fok, ⟨gq107.fok, ⟨gq114.fok, ⟨gq149.fok, trivial⟩⟩⟩⟩)
theorem gq106.fok : FOk Tryz.prog 106 gq106.fi :=
 fokS (E := gq106.E) (wy := ⟨[[none]], [[none, some (kFile, true)], [], []], []⟩) (h := (fun gs => .a)) (G := fun t g => gq106.F (fun y0 y1 y2 => g (y0, y1, y2)) t.1.1 t.1.2.1 t.2.1 t.2.2.1) (by kernel_rfl) gq106.hE Tryz.func106 (by kernel_rfl) rfl (Nat.le_refl _) (fun t => HintOk.n1 (by kernel_rfl) (gq106.hok gq106.hE)) (fun t g => gq106.F_nat g (fun y0 y1 y2 => some (y0, y1, y2)) _ _ _ _) (fun t => by kernel_rfl)
def gq55.F {R : Type} (kk : Int → Int → List (El kFile) → Option R) (d_Room : Int) (d_Files : List (El kFile)) (a_Kind : Int) (a_N : Int) (a_Name : ByteArray) (a_To : ByteArray) (a_Data : ByteArray) (a_Keep : List Int) : Option R :=
 cond (a_Kind == (1 : Int)) (
  (gq104 d_Room d_Files a_Name a_Data).bind fun r =>
  kk r.1 r.2.1 r.2.2) (
  cond (a_Kind == (5 : Int)) (
   (gq105 d_Room d_Files a_Keep).bind fun r1 =>
   kk (0 : Int) r1.1 r1.2) (
   (gq67 a_Kind (2 : Int) (6 : Int)).bind fun r2 =>
   cond (!r2) (kk (3 : Int) d_Room d_Files) (
    (gq76 d_Room d_Files a_Name).bind fun r3 =>
    cond (!r3.2) (kk (5 : Int) d_Room d_Files) (
     grd (gIx r3.1 (List.length d_Files)) <|
     cond (a_Kind == (2 : Int)) (
      kk (0 : Int) d_Room (setE kFile d_Files (Int.toNat r3.1) ((rdE kFile d_Files (Int.toNat r3.1)).1, ((rdE kFile d_Files (Int.toNat r3.1)).2.1, (ByteArray.size (rdE kFile d_Files (Int.toNat r3.1)).2.1 : Int))))) (
      cond (a_Kind == (3 : Int)) (
       (gq106 d_Room d_Files r3.1 a_To).bind fun r4 =>
       kk r4.1 r4.2.1 r4.2.2) (
       cond (a_Kind == (4 : Int)) (
        (gq107 d_Files r3.1 (IntKind.wrap .i64 (r3.1 + (1 : Int)))).bind fun r5 =>
        kk (0 : Int) d_Room r5) (
        cond (a_Kind == (6 : Int)) (
         (gq67 a_N (0 : Int) (ByteArray.size (rdE kFile d_Files (Int.toNat r3.1)).2.1 : Int)).bind fun r6 =>
         cond (!r6) (kk (4 : Int) d_Room d_Files) (
          grd (gSl (0 : Int) a_N (ByteArray.size (rdE kFile d_Files (Int.toNat r3.1)).2.1)) <|
          kk (0 : Int) d_Room (setE kFile (setE kFile d_Files (Int.toNat r3.1) ((rdE kFile d_Files (Int.toNat r3.1)).1, (cut (rdE kFile d_Files (Int.toNat r3.1)).2.1 (0 : Int) a_N, (rdE kFile d_Files (Int.toNat r3.1)).2.2))) (Int.toNat r3.1) ((rdE kFile (setE kFile d_Files (Int.toNat r3.1) ((rdE kFile d_Files (Int.toNat r3.1)).1, (cut (rdE kFile d_Files (Int.toNat r3.1)).2.1 (0 : Int) a_N, (rdE kFile d_Files (Int.toNat r3.1)).2.2))) (Int.toNat r3.1)).1, ((rdE kFile (setE kFile d_Files (Int.toNat r3.1) ((rdE kFile d_Files (Int.toNat r3.1)).1, (cut (rdE kFile d_Files (Int.toNat r3.1)).2.1 (0 : Int) a_N, (rdE kFile d_Files (Int.toNat r3.1)).2.2))) (Int.toNat r3.1)).2.1, mn2 (rdE kFile d_Files (Int.toNat r3.1)).2.2 a_N))))) (kk (0 : Int) d_Room d_Files))))))))
theorem gq55.F_nat {R S : Type} (g : R → Option S) (kk : Int → Int → List (El kFile) → Option R) (d_Room d_Files a_Kind a_N a_Name a_To a_Data a_Keep) : gq55.F (fun y0 y1 y2 => (kk y0 y1 y2).bind g) d_Room d_Files a_Kind a_N a_Name a_To a_Data a_Keep = (gq55.F kk d_Room d_Files a_Kind a_N a_Name a_To a_Data a_Keep).bind g := by
 simp only [gq55.F, grd_bind, cnd_bind, bnd_bind, non_bind]
def gq55 (d_Room : Int) (d_Files : List (El kFile)) (a_Kind : Int) (a_N : Int) (a_Name : ByteArray) (a_To : ByteArray) (a_Data : ByteArray) (a_Keep : List Int) : Option (Int × Int × List (El kFile)) := gq55.F (fun y0 y1 y2 => some (y0, y1, y2)) d_Room d_Files a_Kind a_N a_Name a_To a_Data a_Keep
def gq55.out : (Int × Int × List (El kFile)) → CRes := fun a => ⟨encL SV.enc [.one (.int .i64)] (a.1, ()), [encL SC.enc [.int .i64, .own [] kFile true] (a.2.1, a.2.2, ()), encL SC.enc [] ()]⟩
def gq55.ps : List PS := [.ptr [none, some (kFile, true)], .val [none, none, none, none, none, some ((.int .i64), false)]]
def gq55.sA : List SA := [.ptr [.int .i64, .own [] kFile true], .v (.agg [.int .i64, .int .i64, .str, .str, .str, .slv [] (.int .i64)])]
def gq55.fi : FI := FIs gq55.sA (Int × Int × List (El kFile)) (fun t => gq55 t.1.1 t.1.2.1 t.2.1.1 t.2.1.2.1 t.2.1.2.2.1 t.2.1.2.2.2.1 t.2.1.2.2.2.2.1 t.2.1.2.2.2.2.2.1) gq55.out gq55.ps
def gq55.E : Env := ⟨tt, lkF [(67, gq67.fi), (76, gq76.fi), (104, gq104.fi), (105, gq105.fi), (106, gq106.fi), (107, gq107.fi)], 111, 1, [], []⟩
theorem gq55.hok (hE : EOk Tryz.prog (gq55.E)) : HintOk Tryz.prog gq55.E (bodyOf Tryz.f55) (.a) := HintOk.n1 (Q := True) (by kernel_rfl) trivial
theorem gq55.hE : EOk Tryz.prog (gq55.E) := EOk.of ttOk (⟨gq67.fok, ⟨gq76.fok, ⟨gq104.fok, ⟨gq105.fok, ⟨gq106.fok, ⟨gq107.fok, trivial⟩⟩⟩⟩⟩⟩)
theorem gq55.fok : FOk Tryz.prog 55 gq55.fi :=
 fokS (E := gq55.E) (wy := ⟨[[none]], [[none, some (kFile, true)], []], []⟩) (h := (fun gs => .a)) (G := fun t g => gq55.F (fun y0 y1 y2 => g (y0, y1, y2)) t.1.1 t.1.2.1 t.2.1.1 t.2.1.2.1 t.2.1.2.2.1 t.2.1.2.2.2.1 t.2.1.2.2.2.2.1 t.2.1.2.2.2.2.2.1) (by kernel_rfl) gq55.hE Tryz.func55 (by kernel_rfl) rfl (Nat.le_refl _) (fun t => HintOk.n1 (by kernel_rfl) (gq55.hok gq55.hE)) (fun t g => gq55.F_nat g (fun y0 y1 y2 => some (y0, y1, y2)) _ _ _ _ _ _ _ _) (fun t => by kernel_rfl)
def gq71.l1 {R : Type} (kke0 : Int → Int → List (El kFile) → Option R) (kkr : Int → Int → Option R) : Nat → Int → Int → Int → Int → List (El kka9e) → List (El kFile) → Option R
 | 0, _, _, _, _, _, _ => none
 | n + 1, i, i1, i2, out, l, l1 =>
  cond (decide (i1 < i)) (
   grd (gIx i1 (List.length l)) <|
   (gq55 out l1 ((rdE kka9e l (Int.toNat i1)).1) ((rdE kka9e l (Int.toNat i1)).2.1) ((rdE kka9e l (Int.toNat i1)).2.2.1) ((rdE kka9e l (Int.toNat i1)).2.2.2.1) ((rdE kka9e l (Int.toNat i1)).2.2.2.2.1) ((rdE kka9e l (Int.toNat i1)).2.2.2.2.2)).bind fun r =>
   cond (r.1 != (0 : Int)) (kkr r.1 (0 : Int)) (gq71.l1 kke0 kkr n i (IntKind.wrap .i64 (i1 + (1 : Int))) i2 r.2.1 l r.2.2)) (kke0 i2 out l1)
theorem gq71.l1_nat {R S : Type} (g : R → Option S) (kke0 : Int → Int → List (El kFile) → Option R) (kkr : Int → Int → Option R) : ∀ n i i1 i2 out l l1, gq71.l1 (fun y0 y1 y2 => (kke0 y0 y1 y2).bind g) (fun y0 y1 => (kkr y0 y1).bind g) n i i1 i2 out l l1 = (gq71.l1 kke0 kkr n i i1 i2 out l l1).bind g := by
 intro n
 induction n with
 | zero => intros; rfl
 | succ n ih => intros; simp only [gq71.l1, grd_bind, cnd_bind, bnd_bind, non_bind, ih]
def gq71.F {R : Type} (kk : Int → List (El kFile) → Int → Option R) (d_Room : Int) (d_Files : List (El kFile)) (data : ByteArray) : Option R :=
 (gq70 d_Room d_Files data).bind fun r =>
 cond (r.2 != (0 : Int)) (kk (0 : Int) [] r.2) (
  (gq53 d_Room d_Files).bind fun r1 =>
  gq71.l1 (fun i out l => kk out l (0 : Int)) (fun i1 i2 => kk i2 [] i1) fuel (List.length r.1 : Int) (0 : Int) (0 : Int) r1.1 r.1 r1.2)
theorem gq71.F_nat {R S : Type} (g : R → Option S) (kk : Int → List (El kFile) → Int → Option R) (d_Room d_Files data) : gq71.F (fun y0 y1 y2 => (kk y0 y1 y2).bind g) d_Room d_Files data = (gq71.F kk d_Room d_Files data).bind g := by
 simp only [gq71.F, grd_bind, cnd_bind, bnd_bind, non_bind, ← gq71.l1_nat]
def gq71 (d_Room : Int) (d_Files : List (El kFile)) (data : ByteArray) : Option (Int × List (El kFile) × Int) := gq71.F (fun y0 y1 y2 => some (y0, y1, y2)) d_Room d_Files data
def gq71.out : (Int × List (El kFile) × Int) → CRes := fun a => ⟨encL SV.enc [.agg [.int .i64, .own [] kFile true], .one (.int .i64)] ((a.1, a.2.1, ()), a.2.2, ()), [encL SC.enc [] (), encL SC.enc [] ()]⟩
def gq71.ps : List PS := [.val [none, some (kFile, false)], .val [none]]
def gq71.sA : List SA := [.v (.agg [.int .i64, .slv [] kFile]), .v (.one (.str))]
def gq71.fi : FI := FIs gq71.sA (Int × List (El kFile) × Int) (fun t => gq71 t.1.1 t.1.2.1 t.2.1) gq71.out gq71.ps
def gq71.E : Env := ⟨tt, lkF [(53, gq53.fi), (55, gq55.fi), (70, gq70.fi)], 38, 0, [], []⟩
def gq71.sh1 : SK := ⟨[.v (.one (.bptr 0 0)), .v (.one (.bptr 1 0)), .v (.one (.slo 2)), .v (.one (.int .i64)), .v (.one (.int .i64))], [.box [.int .i64, .nil], .box [.int .i64, .slo 3], .arr kka9e [] true, .arr kFile [] true]⟩
def gq71.sh1e0 : SK := ⟨[.v (.one (.bptr 0 0)), .v (.one (.bptr 1 0))], [.box [.int .i64, .nil], .box [.int .i64, .slo 2], .arr kFile [] true]⟩
def gq71.sh1r : SK := ⟨[.v (.one (.bptr 0 0)), .v (.one (.int .i64))], [.box [.int .i64, .nil]]⟩
def gq71.ko1 : Ex → List CastAt × List Nat
 | .nrm => ([], [])
 | .ret => ([], [4, 5])
 | .ext i => cond (Nat.beq i 0) ([], [4, 8]) ([], [])
def gq71.G1 (n : Nat) (R : Type) (t : gq71.sh1.T) (K : Ex → Kp → Option R) : Option R := gq71.l1 (fun y0 y1 y2 => K (.ext 0) (SK.enc gq71.sh1e0 (((), (), ()), ((y0, (), ()), (y1, (), ()), y2, ())))) (fun y0 y1 => K .ret (SK.enc gq71.sh1r (((), y0, ()), ((y1, (), ()), ())))) n t.1.2.2.2.1 t.1.2.2.2.2.1 t.2.1.1 t.2.2.1.1 t.2.2.2.1 t.2.2.2.2.1
def gq71.S1 : Sum := ⟨([], [4, 8, 24, 25, 26]), sumF gq71.sh1 (gq71.G1 fuel), gq71.ko1⟩
theorem gq71.ok1 (hE : EOk Tryz.prog (gq71.E)) : SumOk Tryz.prog gq71.E (cB (cR (cL (cR (cR (cR (cR (bodyOf Tryz.f71)))))))) (gq71.S1) := by
 have hh : HintOk Tryz.prog gq71.E (cB (cB (cR (cL (cR (cR (cR (cR (bodyOf Tryz.f71))))))))) (.a) := HintOk.n1 (Q := True) (by kernel_rfl) trivial
 have h := loopS (kin := ([], [4, 8, 24, 25, 26])) (kout := gq71.ko1) (sh := gq71.sh1) (F := gq71.G1) (ops_ok (hE.gv _)) (by kernel_rfl) hh (fun _ _ _ => rfl) (fun n R t K => by kernel_rfl) fuel
 exact HintOk.n1 (c := (cB (cR (cL (cR (cR (cR (cR (bodyOf Tryz.f71))))))))) (h := .s (gq71.S1)) (P := Tryz.prog) (E := gq71.E) (by kernel_rfl) h
theorem gq71.hok (hE : EOk Tryz.prog (gq71.E)) : HintOk Tryz.prog gq71.E (bodyOf Tryz.f71) (.n (.a) (.n (.a) (.n (.a) (.n (.a) (.n (.n (.a) (.b (.s (gq71.S1)))) (.a)))))) := HintOk.n1 (Q := (True) ∧ ((True) ∧ ((True) ∧ ((True) ∧ (((True) ∧ (SumOk Tryz.prog gq71.E (cB (cR (cL (cR (cR (cR (cR (bodyOf Tryz.f71)))))))) (gq71.S1))) ∧ (True)))))) (by kernel_rfl) ⟨trivial, ⟨trivial, ⟨trivial, ⟨trivial, ⟨⟨trivial, (gq71.ok1 hE)⟩, trivial⟩⟩⟩⟩⟩
theorem gq71.hE : EOk Tryz.prog (gq71.E) := EOk.of ttOk (⟨gq53.fok, ⟨gq55.fok, ⟨gq70.fok, trivial⟩⟩⟩)
theorem gq71.fok : FOk Tryz.prog 71 gq71.fi :=
 fokS (E := gq71.E) (wy := ⟨[[none, some (kFile, true)], [none]], [[], []], []⟩) (h := (fun gs => .n (.a) (.n (.a) (.n (.a) (.n (.a) (.n (.n (.a) (.b (.s (gq71.S1)))) (.a))))))) (G := fun t g => gq71.F (fun y0 y1 y2 => g (y0, y1, y2)) t.1.1 t.1.2.1 t.2.1) (by kernel_rfl) gq71.hE Tryz.func71 (by kernel_rfl) rfl (Nat.le_refl _) (fun t => HintOk.n1 (by kernel_rfl) (gq71.hok gq71.hE)) (fun t g => gq71.F_nat g (fun y0 y1 y2 => some (y0, y1, y2)) _ _ _) (fun t => by kernel_rfl)
def gq27.F {R : Type} (kk : Int → List (El kFile) → Int → Option R) (d_Room : Int) (d_Files : List (El kFile)) (data : ByteArray) : Option R :=
 (gq69 [data]).bind fun r =>
 cond (!r) (kk (0 : Int) [] (2 : Int)) (
  (gq65 d_Room d_Files).bind fun r1 =>
  cond (!r1) (kk (0 : Int) [] (1 : Int)) (
   (gq71 d_Room d_Files data).bind fun r2 =>
   kk r2.1 r2.2.1 r2.2.2))
theorem gq27.F_nat {R S : Type} (g : R → Option S) (kk : Int → List (El kFile) → Int → Option R) (d_Room d_Files data) : gq27.F (fun y0 y1 y2 => (kk y0 y1 y2).bind g) d_Room d_Files data = (gq27.F kk d_Room d_Files data).bind g := by
 simp only [gq27.F, grd_bind, cnd_bind, bnd_bind, non_bind]
def gq27 (d_Room : Int) (d_Files : List (El kFile)) (data : ByteArray) : Option (Int × List (El kFile) × Int) := gq27.F (fun y0 y1 y2 => some (y0, y1, y2)) d_Room d_Files data
def gq27.out : (Int × List (El kFile) × Int) → CRes := fun a => ⟨encL SV.enc [.agg [.int .i64, .own [] kFile true], .one (.int .i64)] ((a.1, a.2.1, ()), a.2.2, ()), [encL SC.enc [] (), encL SC.enc [] ()]⟩
def gq27.ps : List PS := [.val [none, some (kFile, false)], .val [none]]
def gq27.sA : List SA := [.v (.agg [.int .i64, .slv [] kFile]), .v (.one (.str))]
def gq27.fi : FI := FIs gq27.sA (Int × List (El kFile) × Int) (fun t => gq27 t.1.1 t.1.2.1 t.2.1) gq27.out gq27.ps
def gq27.E : Env := ⟨tt, lkF [(65, gq65.fi), (69, gq69.fi), (71, gq71.fi)], 22, 0, [], []⟩
theorem gq27.hok (hE : EOk Tryz.prog (gq27.E)) : HintOk Tryz.prog gq27.E (bodyOf Tryz.f27) (.a) := HintOk.n1 (Q := True) (by kernel_rfl) trivial
theorem gq27.hE : EOk Tryz.prog (gq27.E) := EOk.of ttOk (⟨gq65.fok, ⟨gq69.fok, ⟨gq71.fok, trivial⟩⟩⟩)
theorem gq27.fok : FOk Tryz.prog 27 gq27.fi :=
 fokS (E := gq27.E) (wy := ⟨[[none, some (kFile, true)], [none]], [[], []], []⟩) (h := (fun gs => .a)) (G := fun t g => gq27.F (fun y0 y1 y2 => g (y0, y1, y2)) t.1.1 t.1.2.1 t.2.1) (by kernel_rfl) gq27.hE Tryz.func27 (by kernel_rfl) rfl (Nat.le_refl _) (fun t => HintOk.n1 (by kernel_rfl) (gq27.hok gq27.hE)) (fun t g => gq27.F_nat g (fun y0 y1 y2 => some (y0, y1, y2)) _ _ _) (fun t => by kernel_rfl)
def gq72.l1 {R : Type} (kke0 : Int → Int → Int → List (El kFile) → Option R) : Nat → Int → Int → Int → Int → Int → List (El kFile) → Option R
 | 0, _, _, _, _, _, _ => none
 | n + 1, last, i, i1, i2, out, l =>
  cond (decide (i1 < i)) (
   grd (gIx i1 (List.length l)) <|
   (gq115 ((rdE kFile l (Int.toNat i1)).1)).bind fun r =>
   cond (decide (r > (0 : Int))) (gq72.l1 kke0 n i1 i (IntKind.wrap .i64 (i1 + (1 : Int))) i2 out l) (gq72.l1 kke0 n last i (IntKind.wrap .i64 (i1 + (1 : Int))) i2 out l)) (kke0 last i2 out l)
theorem gq72.l1_nat {R S : Type} (g : R → Option S) (kke0 : Int → Int → Int → List (El kFile) → Option R) : ∀ n last i i1 i2 out l, gq72.l1 (fun y0 y1 y2 y3 => (kke0 y0 y1 y2 y3).bind g) n last i i1 i2 out l = (gq72.l1 kke0 n last i i1 i2 out l).bind g := by
 intro n
 induction n with
 | zero => intros; rfl
 | succ n ih => intros; simp only [gq72.l1, grd_bind, cnd_bind, bnd_bind, non_bind, ih]
def gq72.F {R : Type} (kk : Int → List (El kFile) → Option R) (d_Room : Int) (d_Files : List (El kFile)) : Option R :=
 (gq53 d_Room d_Files).bind fun r =>
 gq72.l1 (fun last i out l =>
  cond (decide (last ≥ (0 : Int))) (
   grd (gIx last (List.length l)) <|
   grd (gIx last (List.length l)) <|
   kk out (setE kFile l (Int.toNat last) ((rdE kFile l (Int.toNat last)).1, ((rdE kFile l (Int.toNat last)).2.1, (ByteArray.size (rdE kFile l (Int.toNat last)).2.1 : Int))))) (kk out l)) fuel (-1 : Int) (List.length r.2 : Int) (0 : Int) (0 : Int) r.1 r.2
theorem gq72.F_nat {R S : Type} (g : R → Option S) (kk : Int → List (El kFile) → Option R) (d_Room d_Files) : gq72.F (fun y0 y1 => (kk y0 y1).bind g) d_Room d_Files = (gq72.F kk d_Room d_Files).bind g := by
 simp only [gq72.F, grd_bind, cnd_bind, bnd_bind, non_bind, ← gq72.l1_nat]
def gq72 (d_Room : Int) (d_Files : List (El kFile)) : Option (Int × List (El kFile)) := gq72.F (fun y0 y1 => some (y0, y1)) d_Room d_Files
def gq72.out : (Int × List (El kFile)) → CRes := fun a => ⟨encL SV.enc [.agg [.int .i64, .own [] kFile true]] ((a.1, a.2, ()), ()), [encL SC.enc [] ()]⟩
def gq72.ps : List PS := [.val [none, some (kFile, false)]]
def gq72.sA : List SA := [.v (.agg [.int .i64, .slv [] kFile])]
def gq72.fi : FI := FIs gq72.sA (Int × List (El kFile)) (fun t => gq72 t.1.1 t.1.2.1) gq72.out gq72.ps
def gq72.E : Env := ⟨tt, lkF [(53, gq53.fi), (115, gq115.fi)], 38, 0, [], []⟩
def gq72.sh1 : SK := ⟨[.v (.one (.bptr 0 0)), .v (.one (.bptr 1 0)), .v (.one (.int .i64)), .v (.one (.slo 2)), .v (.one (.int .i64)), .v (.one (.int .i64))], [.box [.int .i64, .nil], .box [.int .i64, .slo 2], .arr kFile [] true]⟩
def gq72.sh1e0 : SK := ⟨[.v (.one (.bptr 0 0)), .v (.one (.bptr 1 0)), .v (.one (.int .i64))], [.box [.int .i64, .nil], .box [.int .i64, .slo 2], .arr kFile [] true]⟩
def gq72.ko1 : Ex → List CastAt × List Nat
 | .nrm => ([], [])
 | .ret => ([], [])
 | .ext i => cond (Nat.beq i 0) ([], [2, 3, 4]) ([], [])
def gq72.G1 (n : Nat) (R : Type) (t : gq72.sh1.T) (K : Ex → Kp → Option R) : Option R := gq72.l1 (fun y0 y1 y2 y3 => K (.ext 0) (SK.enc gq72.sh1e0 (((), (), y0, ()), ((y1, (), ()), (y2, (), ()), y3, ())))) n t.1.2.2.1 t.1.2.2.2.2.1 t.1.2.2.2.2.2.1 t.2.1.1 t.2.2.1.1 t.2.2.2.1
def gq72.S1 : Sum := ⟨([], [2, 3, 4, 10, 11, 12]), sumF gq72.sh1 (gq72.G1 fuel), gq72.ko1⟩
theorem gq72.ok1 (hE : EOk Tryz.prog (gq72.E)) : SumOk Tryz.prog gq72.E (cB (cR (cL (cR (cR (bodyOf Tryz.f72)))))) (gq72.S1) := by
 have hh : HintOk Tryz.prog gq72.E (cB (cB (cR (cL (cR (cR (bodyOf Tryz.f72))))))) (.a) := HintOk.n1 (Q := True) (by kernel_rfl) trivial
 have h := loopS (kin := ([], [2, 3, 4, 10, 11, 12])) (kout := gq72.ko1) (sh := gq72.sh1) (F := gq72.G1) (ops_ok (hE.gv _)) (by kernel_rfl) hh (fun _ _ _ => rfl) (fun n R t K => by kernel_rfl) fuel
 exact HintOk.n1 (c := (cB (cR (cL (cR (cR (bodyOf Tryz.f72))))))) (h := .s (gq72.S1)) (P := Tryz.prog) (E := gq72.E) (by kernel_rfl) h
theorem gq72.hok (hE : EOk Tryz.prog (gq72.E)) : HintOk Tryz.prog gq72.E (bodyOf Tryz.f72) (.n (.a) (.n (.a) (.n (.n (.a) (.b (.s (gq72.S1)))) (.a)))) := HintOk.n1 (Q := (True) ∧ ((True) ∧ (((True) ∧ (SumOk Tryz.prog gq72.E (cB (cR (cL (cR (cR (bodyOf Tryz.f72)))))) (gq72.S1))) ∧ (True)))) (by kernel_rfl) ⟨trivial, ⟨trivial, ⟨⟨trivial, (gq72.ok1 hE)⟩, trivial⟩⟩⟩
theorem gq72.hE : EOk Tryz.prog (gq72.E) := EOk.of ttOk (⟨gq53.fok, ⟨gq115.fok, trivial⟩⟩)
theorem gq72.fok : FOk Tryz.prog 72 gq72.fi :=
 fokS (E := gq72.E) (wy := ⟨[[none, some (kFile, true)]], [[]], []⟩) (h := (fun gs => .n (.a) (.n (.a) (.n (.n (.a) (.b (.s (gq72.S1)))) (.a))))) (G := fun t g => gq72.F (fun y0 y1 => g (y0, y1)) t.1.1 t.1.2.1) (by kernel_rfl) gq72.hE Tryz.func72 (by kernel_rfl) rfl (Nat.le_refl _) (fun t => HintOk.n1 (by kernel_rfl) (gq72.hok gq72.hE)) (fun t g => gq72.F_nat g (fun y0 y1 => some (y0, y1)) _ _) (fun t => by kernel_rfl)
end
end Go.Proofs.YtaanadbpnmcbcaaGreatDoorA
