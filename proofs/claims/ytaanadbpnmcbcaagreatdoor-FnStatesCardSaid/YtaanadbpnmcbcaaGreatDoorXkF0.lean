/-
  Functions of the program, and that the small machine's runs are these. No condition.
  Printed by wip/amp/main.py (a session's own program) out of Lean's print of the program; Lean's kernel checks it.
-/
import Derived.Test.YtaanadbpnmcbcaaGreatDoorXkT
namespace Go.Proofs.YtaanadbpnmcbcaaGreatDoorA
open Go
noncomputable section
set_option linter.unusedVariables false
set_option linter.unusedSimpArgs false
set_option maxRecDepth 100000
def gq59.F {R : Type} (kk : Bool → Option R) (n_ : Int) (low : Int) (high : Int) : Option R :=
 cond (decide (n_ ≥ low)) (kk (decide (n_ ≤ high))) (kk false)
theorem gq59.F_nat {R S : Type} (g : R → Option S) (kk : Bool → Option R) (n_ low high) : gq59.F (fun y0 => (kk y0).bind g) n_ low high = (gq59.F kk n_ low high).bind g := by
 simp only [gq59.F, grd_bind, cnd_bind, bnd_bind, non_bind]
def gq59 (n_ : Int) (low : Int) (high : Int) : Option Bool := gq59.F (fun y0 => some y0) n_ low high
def gq59.out : Bool → CRes := fun a => ⟨encL SV.enc [.one (.bool)] (a, ()), [encL SC.enc [] (), encL SC.enc [] (), encL SC.enc [] ()]⟩
def gq59.ps : List PS := [.val [none], .val [none], .val [none]]
def gq59.sA : List SA := [.v (.one (.int .i64)), .v (.one (.int .i64)), .v (.one (.int .i64))]
def gq59.fi : FI := FIs gq59.sA (Bool) (fun t => gq59 t.1 t.2.1 t.2.2.1) gq59.out gq59.ps
def gq59.E : Env := ⟨tt, lkF [], 15, 0, [], []⟩
theorem gq59.hok (hE : EOk Tryz.prog (gq59.E)) : HintOk Tryz.prog gq59.E (bodyOf Tryz.f59) (.a) := HintOk.n1 (Q := True) (by kernel_rfl) trivial
theorem gq59.hE : EOk Tryz.prog (gq59.E) := EOk.of ttOk (trivial)
theorem gq59.fok : FOk Tryz.prog 59 gq59.fi :=
 fokS (E := gq59.E) (wy := ⟨[[none]], [[], [], []], []⟩) (h := (fun gs => .a)) (G := fun t g => gq59.F (fun y0 => g y0) t.1 t.2.1 t.2.2.1) (by kernel_rfl) gq59.hE Tryz.func59 (by kernel_rfl) rfl (Nat.le_refl _) (fun t => HintOk.n1 (by kernel_rfl) (gq59.hok gq59.hE)) (fun t g => gq59.F_nat g (fun y0 => some y0) _ _ _) (fun t => by kernel_rfl)
def gq17.F {R : Type} (kk : Int → List (El kFile) → Int → Option R) (room : Int) : Option R :=
 (gq59 room (0 : Int) (3000 : Int)).bind fun r =>
 cond (!r) (kk (0 : Int) [] (4 : Int)) (kk room ([] : List (El kFile)) (0 : Int))
theorem gq17.F_nat {R S : Type} (g : R → Option S) (kk : Int → List (El kFile) → Int → Option R) (room) : gq17.F (fun y0 y1 y2 => (kk y0 y1 y2).bind g) room = (gq17.F kk room).bind g := by
 simp only [gq17.F, grd_bind, cnd_bind, bnd_bind, non_bind]
def gq17 (room : Int) : Option (Int × List (El kFile) × Int) := gq17.F (fun y0 y1 y2 => some (y0, y1, y2)) room
def gq17.out : (Int × List (El kFile) × Int) → CRes := fun a => ⟨encL SV.enc [.agg [.int .i64, .own [] kFile true], .one (.int .i64)] ((a.1, a.2.1, ()), a.2.2, ()), [encL SC.enc [] ()]⟩
def gq17.ps : List PS := [.val [none]]
def gq17.sA : List SA := [.v (.one (.int .i64))]
def gq17.fi : FI := FIs gq17.sA (Int × List (El kFile) × Int) (fun t => gq17 t.1) gq17.out gq17.ps
def gq17.E : Env := ⟨tt, lkF [(59, gq59.fi)], 11, 0, [], []⟩
theorem gq17.hok (hE : EOk Tryz.prog (gq17.E)) : HintOk Tryz.prog gq17.E (bodyOf Tryz.f17) (.a) := HintOk.n1 (Q := True) (by kernel_rfl) trivial
theorem gq17.hE : EOk Tryz.prog (gq17.E) := EOk.of ttOk (⟨gq59.fok, trivial⟩)
theorem gq17.fok : FOk Tryz.prog 17 gq17.fi :=
 fokS (E := gq17.E) (wy := ⟨[[none, some (kFile, true)], [none]], [[]], []⟩) (h := (fun gs => .a)) (G := fun t g => gq17.F (fun y0 y1 y2 => g (y0, y1, y2)) t.1) (by kernel_rfl) gq17.hE Tryz.func17 (by kernel_rfl) rfl (Nat.le_refl _) (fun t => HintOk.n1 (by kernel_rfl) (gq17.hok gq17.hE)) (fun t g => gq17.F_nat g (fun y0 y1 y2 => some (y0, y1, y2)) _) (fun t => by kernel_rfl)
def gq24.l1 {R : Type} (kke0 : Option R) (kkr : Bool → Option R) : Nat → List ByteArray → List ByteArray → Int → Option R
 | 0, _, _, _ => none
 | n + 1, a, b, i =>
  cond (decide (i < (List.length a : Int))) (
   grd (gIx i (List.length a)) <|
   grd (gIx i (List.length b)) <|
   cond (!(sEq (rdE (.str : Kd) a (Int.toNat i)) (rdE (.str : Kd) b (Int.toNat i)))) (kkr false) (gq24.l1 kke0 kkr n a b (IntKind.wrap .i64 (i + (1 : Int))))) (kke0)
theorem gq24.l1_nat {R S : Type} (g : R → Option S) (kke0 : Option R) (kkr : Bool → Option R) : ∀ n a b i, gq24.l1 (kke0.bind g) (fun y0 => (kkr y0).bind g) n a b i = (gq24.l1 kke0 kkr n a b i).bind g := by
 intro n
 induction n with
 | zero => intros; rfl
 | succ n ih => intros; simp only [gq24.l1, grd_bind, cnd_bind, bnd_bind, non_bind, ih]
def gq24.F {R : Type} (kk : Bool → Option R) (a : List ByteArray) (b : List ByteArray) : Option R :=
 cond ((List.length a : Int) != (List.length b : Int)) (kk false) (gq24.l1 (kk true) (fun b1 => kk b1) fuel a b (0 : Int))
theorem gq24.F_nat {R S : Type} (g : R → Option S) (kk : Bool → Option R) (a b) : gq24.F (fun y0 => (kk y0).bind g) a b = (gq24.F kk a b).bind g := by
 simp only [gq24.F, grd_bind, cnd_bind, bnd_bind, non_bind, ← gq24.l1_nat]
def gq24 (a : List ByteArray) (b : List ByteArray) : Option Bool := gq24.F (fun y0 => some y0) a b
def gq24.out : Bool → CRes := fun a => ⟨encL SV.enc [.one (.bool)] (a, ()), [encL SC.enc [] (), encL SC.enc [] ()]⟩
def gq24.ps : List PS := [.val [some (.str, false)], .val [some (.str, false)]]
def gq24.sA : List SA := [.v (.one (.slv [] .str)), .v (.one (.slv [] .str))]
def gq24.fi : FI := FIs gq24.sA (Bool) (fun t => gq24 t.1 t.2.1) gq24.out gq24.ps
def gq24.E : Env := ⟨tt, lkF [], 26, 0, [], []⟩
def gq24.sh1 : SK := ⟨[.v (.one (.slv [1] .str)), .v (.one (.slv [2] .str)), .v (.one (.int .i64))], []⟩
def gq24.sh1e0 : SK := ⟨[], []⟩
def gq24.sh1r : SK := ⟨[.v (.one (.bool))], []⟩
def gq24.ko1 : Ex → List CastAt × List Nat
 | .nrm => ([], [])
 | .ret => ([], [4])
 | .ext i => cond (Nat.beq i 0) ([], []) ([], [])
def gq24.G1 (n : Nat) (R : Type) (t : gq24.sh1.T) (K : Ex → Kp → Option R) : Option R := gq24.l1 (K (.ext 0) (SK.enc gq24.sh1e0 ((), ()))) (fun y0 => K .ret (SK.enc gq24.sh1r ((y0, ()), ()))) n t.1.1 t.1.2.1 t.1.2.2.1
def gq24.S1 : Sum := ⟨([], [0, 1, 5]), sumF gq24.sh1 (gq24.G1 fuel), gq24.ko1⟩
theorem gq24.ok1 (hE : EOk Tryz.prog (gq24.E)) : SumOk Tryz.prog gq24.E (cB (cR (cL (cR (cR (bodyOf Tryz.f24)))))) (gq24.S1) := by
 have hh : HintOk Tryz.prog gq24.E (cB (cB (cR (cL (cR (cR (bodyOf Tryz.f24))))))) (.a) := HintOk.n1 (Q := True) (by kernel_rfl) trivial
 have h := loopS (kin := ([], [0, 1, 5])) (kout := gq24.ko1) (sh := gq24.sh1) (F := gq24.G1) (ops_ok (hE.gv _)) (by kernel_rfl) hh (fun _ _ _ => rfl) (fun n R t K => by kernel_rfl) fuel
 exact HintOk.n1 (c := (cB (cR (cL (cR (cR (bodyOf Tryz.f24))))))) (h := .s (gq24.S1)) (P := Tryz.prog) (E := gq24.E) (by kernel_rfl) h
theorem gq24.hok (hE : EOk Tryz.prog (gq24.E)) : HintOk Tryz.prog gq24.E (bodyOf Tryz.f24) (.n (.a) (.n (.a) (.n (.n (.a) (.b (.s (gq24.S1)))) (.a)))) := HintOk.n1 (Q := (True) ∧ ((True) ∧ (((True) ∧ (SumOk Tryz.prog gq24.E (cB (cR (cL (cR (cR (bodyOf Tryz.f24)))))) (gq24.S1))) ∧ (True)))) (by kernel_rfl) ⟨trivial, ⟨trivial, ⟨⟨trivial, (gq24.ok1 hE)⟩, trivial⟩⟩⟩
theorem gq24.hE : EOk Tryz.prog (gq24.E) := EOk.of ttOk (trivial)
theorem gq24.fok : FOk Tryz.prog 24 gq24.fi :=
 fokS (E := gq24.E) (wy := ⟨[[none]], [[], []], []⟩) (h := (fun gs => .n (.a) (.n (.a) (.n (.n (.a) (.b (.s (gq24.S1)))) (.a))))) (G := fun t g => gq24.F (fun y0 => g y0) t.1 t.2.1) (by kernel_rfl) gq24.hE Tryz.func24 (by kernel_rfl) rfl (Nat.le_refl _) (fun t => HintOk.n1 (by kernel_rfl) (gq24.hok gq24.hE)) (fun t g => gq24.F_nat g (fun y0 => some y0) _ _) (fun t => by kernel_rfl)
def gq67.F {R : Type} (kk : Bool → Option R) (n_ : Int) (low : Int) (high : Int) : Option R :=
 cond (decide (n_ ≥ low)) (kk (decide (n_ ≤ high))) (kk false)
theorem gq67.F_nat {R S : Type} (g : R → Option S) (kk : Bool → Option R) (n_ low high) : gq67.F (fun y0 => (kk y0).bind g) n_ low high = (gq67.F kk n_ low high).bind g := by
 simp only [gq67.F, grd_bind, cnd_bind, bnd_bind, non_bind]
def gq67 (n_ : Int) (low : Int) (high : Int) : Option Bool := gq67.F (fun y0 => some y0) n_ low high
def gq67.out : Bool → CRes := fun a => ⟨encL SV.enc [.one (.bool)] (a, ()), [encL SC.enc [] (), encL SC.enc [] (), encL SC.enc [] ()]⟩
def gq67.ps : List PS := [.val [none], .val [none], .val [none]]
def gq67.sA : List SA := [.v (.one (.int .i64)), .v (.one (.int .i64)), .v (.one (.int .i64))]
def gq67.fi : FI := FIs gq67.sA (Bool) (fun t => gq67 t.1 t.2.1 t.2.2.1) gq67.out gq67.ps
def gq67.E : Env := ⟨tt, lkF [], 15, 0, [], []⟩
theorem gq67.hok (hE : EOk Tryz.prog (gq67.E)) : HintOk Tryz.prog gq67.E (bodyOf Tryz.f67) (.a) := HintOk.n1 (Q := True) (by kernel_rfl) trivial
theorem gq67.hE : EOk Tryz.prog (gq67.E) := EOk.of ttOk (trivial)
theorem gq67.fok : FOk Tryz.prog 67 gq67.fi :=
 fokS (E := gq67.E) (wy := ⟨[[none]], [[], [], []], []⟩) (h := (fun gs => .a)) (G := fun t g => gq67.F (fun y0 => g y0) t.1 t.2.1 t.2.2.1) (by kernel_rfl) gq67.hE Tryz.func67 (by kernel_rfl) rfl (Nat.le_refl _) (fun t => HintOk.n1 (by kernel_rfl) (gq67.hok gq67.hE)) (fun t g => gq67.F_nat g (fun y0 => some y0) _ _ _) (fun t => by kernel_rfl)
def gq204.l1 {R : Type} (f : ((Int × Unit) → Option (Bool × Unit))) (kke0 : Option R) (kkr : Int → Option R) : Nat → List Int → Int → Int → Option R
 | 0, _, _, _ => none
 | n + 1, s, i, i1 =>
  cond (decide (i1 < i)) (
   grd (gIx i1 (List.length s)) <|
   (f (rdE (.int .i64 : Kd) s (Int.toNat i1), ())).bind fun r =>
   cond (r.1) (kkr i1) (gq204.l1 f kke0 kkr n s i (IntKind.wrap .i64 (i1 + (1 : Int))))) (kke0)
theorem gq204.l1_nat {R S : Type} (g : R → Option S) (f : ((Int × Unit) → Option (Bool × Unit))) (kke0 : Option R) (kkr : Int → Option R) : ∀ n s i i1, gq204.l1 f (kke0.bind g) (fun y0 => (kkr y0).bind g) n s i i1 = (gq204.l1 f kke0 kkr n s i i1).bind g := by
 intro n
 induction n with
 | zero => intros; rfl
 | succ n ih => intros; simp only [gq204.l1, grd_bind, cnd_bind, bnd_bind, non_bind, ih]
def gq204.F {R : Type} (kk : Int → Option R) (s : List Int) (f : ((Int × Unit) → Option (Bool × Unit))) : Option R :=
 gq204.l1 f (kk (-1 : Int)) (fun i => kk i) fuel s (List.length s : Int) (0 : Int)
theorem gq204.F_nat {R S : Type} (g : R → Option S) (kk : Int → Option R) (s f) : gq204.F (fun y0 => (kk y0).bind g) s f = (gq204.F kk s f).bind g := by
 simp only [gq204.F, grd_bind, cnd_bind, bnd_bind, non_bind, ← gq204.l1_nat]
def gq204 (s : List Int) (f : ((Int × Unit) → Option (Bool × Unit))) : Option Int := gq204.F (fun y0 => some y0) s f
def gq204.out : Int → CRes := fun a => ⟨encL SV.enc [.one (.int .i64)] (a, ()), [encL SC.enc [] (), encL SC.enc [] ()]⟩
def gq204.ps : List PS := [.val [some ((.int .i64), false)], .fn [.one (.bool)]]
def gq204.sA : List SA := [.v (.one (.slv [] (.int .i64))), .fn [.one (.int .i64)] [.one (.bool)]]
def gq204.fi : FI := FIs gq204.sA (Int) (fun t => gq204 t.1 t.2.1) gq204.out gq204.ps
def gq204.E : Env := ⟨tt, lkF [], 19, 0, [], []⟩
def gq204.sh1 : SK := ⟨[.v (.one (.slv [1] (.int .i64))), .v (.one (.fv 0)), .v (.one (.int .i64)), .v (.one (.int .i64))], []⟩
def gq204.sh1e0 : SK := ⟨[], []⟩
def gq204.sh1r : SK := ⟨[.v (.one (.int .i64))], []⟩
def gq204.ko1 : Ex → List CastAt × List Nat
 | .nrm => ([], [])
 | .ret => ([], [4])
 | .ext i => cond (Nat.beq i 0) ([], []) ([], [])
def gq204.G1 (f : ((Int × Unit) → Option (Bool × Unit))) (n : Nat) (R : Type) (t : gq204.sh1.T) (K : Ex → Kp → Option R) : Option R := gq204.l1 f (K (.ext 0) (SK.enc gq204.sh1e0 ((), ()))) (fun y0 => K .ret (SK.enc gq204.sh1r ((y0, ()), ()))) n t.1.1 t.1.2.2.1 t.1.2.2.2.1
def gq204.S1 (f : ((Int × Unit) → Option (Bool × Unit))) : Sum := ⟨([], [0, 1, 7, 8]), sumF gq204.sh1 (gq204.G1 f fuel), gq204.ko1⟩
theorem gq204.ok1 (f : ((Int × Unit) → Option (Bool × Unit))) (hE : EOk Tryz.prog (gq204.E)) : SumOk Tryz.prog { (gq204.E) with gv := [fnE [.one (.int .i64)] [.one (.bool)] f] } (cB (cR (cL (cR (bodyOf Tryz.f204))))) (gq204.S1 f) := by
 have hh : HintOk Tryz.prog { (gq204.E) with gv := [fnE [.one (.int .i64)] [.one (.bool)] f] } (cB (cB (cR (cL (cR (bodyOf Tryz.f204)))))) (.a) := HintOk.n1 (Q := True) (by kernel_rfl) trivial
 have h := loopS (kin := ([], [0, 1, 7, 8])) (kout := gq204.ko1) (sh := gq204.sh1) (F := gq204.G1 f) (ops_ok (hE.gv _)) (by kernel_rfl) hh (fun _ _ _ => rfl) (fun n R t K => by kernel_rfl) fuel
 exact HintOk.n1 (c := (cB (cR (cL (cR (bodyOf Tryz.f204)))))) (h := .s (gq204.S1 f)) (P := Tryz.prog) (E := { (gq204.E) with gv := [fnE [.one (.int .i64)] [.one (.bool)] f] }) (by kernel_rfl) h
theorem gq204.hok (f : ((Int × Unit) → Option (Bool × Unit))) (hE : EOk Tryz.prog (gq204.E)) : HintOk Tryz.prog { (gq204.E) with gv := [fnE [.one (.int .i64)] [.one (.bool)] f] } (bodyOf Tryz.f204) (.n (.a) (.n (.n (.a) (.b (.s (gq204.S1 f)))) (.a))) := HintOk.n1 (Q := (True) ∧ (((True) ∧ (SumOk Tryz.prog { (gq204.E) with gv := [fnE [.one (.int .i64)] [.one (.bool)] f] } (cB (cR (cL (cR (bodyOf Tryz.f204))))) (gq204.S1 f))) ∧ (True))) (by kernel_rfl) ⟨trivial, ⟨⟨trivial, (gq204.ok1 f hE)⟩, trivial⟩⟩
theorem gq204.hE : EOk Tryz.prog (gq204.E) := EOk.of ttOk (trivial)
theorem gq204.fok : FOk Tryz.prog 204 gq204.fi :=
 fokS (E := gq204.E) (wy := ⟨[[none]], [[], []], []⟩) (h := (fun gs => let f := fnP [.one (.int .i64)] [.one (.bool)] (gN 0 gs); .n (.a) (.n (.n (.a) (.b (.s (gq204.S1 f)))) (.a)))) (G := fun t g => gq204.F (fun y0 => g y0) t.1 t.2.1) (by kernel_rfl) gq204.hE Tryz.func204 (by kernel_rfl) rfl (Nat.le_refl _) (fun t => HintOk.n1 (by kernel_rfl) (gq204.hok t.2.1 gq204.hE)) (fun t g => gq204.F_nat g (fun y0 => some y0) _ _) (fun t => by kernel_rfl)
def gq198.F {R : Type} (kk : Bool → Option R) (s : List Int) (f : ((Int × Unit) → Option (Bool × Unit))) : Option R :=
 (gq204 s f).bind fun r =>
 kk (decide (r ≥ (0 : Int)))
theorem gq198.F_nat {R S : Type} (g : R → Option S) (kk : Bool → Option R) (s f) : gq198.F (fun y0 => (kk y0).bind g) s f = (gq198.F kk s f).bind g := by
 simp only [gq198.F, grd_bind, cnd_bind, bnd_bind, non_bind]
def gq198 (s : List Int) (f : ((Int × Unit) → Option (Bool × Unit))) : Option Bool := gq198.F (fun y0 => some y0) s f
def gq198.out : Bool → CRes := fun a => ⟨encL SV.enc [.one (.bool)] (a, ()), [encL SC.enc [] (), encL SC.enc [] ()]⟩
def gq198.ps : List PS := [.val [some ((.int .i64), false)], .fn [.one (.bool)]]
def gq198.sA : List SA := [.v (.one (.slv [] (.int .i64))), .fn [.one (.int .i64)] [.one (.bool)]]
def gq198.fi : FI := FIs gq198.sA (Bool) (fun t => gq198 t.1 t.2.1) gq198.out gq198.ps
def gq198.E : Env := ⟨tt, lkF [(204, gq204.fi)], 9, 0, [], []⟩
theorem gq198.hok (f : ((Int × Unit) → Option (Bool × Unit))) (hE : EOk Tryz.prog (gq198.E)) : HintOk Tryz.prog { (gq198.E) with gv := [fnE [.one (.int .i64)] [.one (.bool)] f] } (bodyOf Tryz.f198) (.a) := HintOk.n1 (Q := True) (by kernel_rfl) trivial
theorem gq198.hE : EOk Tryz.prog (gq198.E) := EOk.of ttOk (⟨gq204.fok, trivial⟩)
theorem gq198.fok : FOk Tryz.prog 198 gq198.fi :=
 fokS (E := gq198.E) (wy := ⟨[[none]], [[], []], []⟩) (h := (fun gs => let f := fnP [.one (.int .i64)] [.one (.bool)] (gN 0 gs); .a)) (G := fun t g => gq198.F (fun y0 => g y0) t.1 t.2.1) (by kernel_rfl) gq198.hE Tryz.func198 (by kernel_rfl) rfl (Nat.le_refl _) (fun t => HintOk.n1 (by kernel_rfl) (gq198.hok t.2.1 gq198.hE)) (fun t g => gq198.F_nat g (fun y0 => some y0) _ _) (fun t => by kernel_rfl)
def gq199.F {R : Type} (kk : Bool → Option R) (n_ : Int) : Option R :=
 (gq67 n_ (0 : Int) (6 : Int)).bind fun r =>
 kk (!r)
theorem gq199.F_nat {R S : Type} (g : R → Option S) (kk : Bool → Option R) (n_) : gq199.F (fun y0 => (kk y0).bind g) n_ = (gq199.F kk n_).bind g := by
 simp only [gq199.F, grd_bind, cnd_bind, bnd_bind, non_bind]
def gq199 (n_ : Int) : Option Bool := gq199.F (fun y0 => some y0) n_
def gq199.out : Bool → CRes := fun a => ⟨encL SV.enc [.one (.bool)] (a, ()), [encL SC.enc [] ()]⟩
def gq199.ps : List PS := [.val [none]]
def gq199.sA : List SA := [.v (.one (.int .i64))]
def gq199.fi : FI := FIs gq199.sA (Bool) (fun t => gq199 t.1) gq199.out gq199.ps
def gq199.E : Env := ⟨tt, lkF [(67, gq67.fi)], 6, 0, [], []⟩
theorem gq199.hok (hE : EOk Tryz.prog (gq199.E)) : HintOk Tryz.prog gq199.E (bodyOf Tryz.f199) (.a) := HintOk.n1 (Q := True) (by kernel_rfl) trivial
theorem gq199.hE : EOk Tryz.prog (gq199.E) := EOk.of ttOk (⟨gq67.fok, trivial⟩)
theorem gq199.fok : FOk Tryz.prog 199 gq199.fi :=
 fokS (E := gq199.E) (wy := ⟨[[none]], [[]], []⟩) (h := (fun gs => .a)) (G := fun t g => gq199.F (fun y0 => g y0) t.1) (by kernel_rfl) gq199.hE Tryz.func199 (by kernel_rfl) rfl (Nat.le_refl _) (fun t => HintOk.n1 (by kernel_rfl) (gq199.hok gq199.hE)) (fun t g => gq199.F_nat g (fun y0 => some y0) _) (fun t => by kernel_rfl)
def gq192.F {R : Type} (kk : Bool → Option R) (list : List Int) : Option R :=
 (gq198 list (fun t => (gq199 t.1).bind fun a => some (a, ()))).bind fun r =>
 kk (!r)
theorem gq192.F_nat {R S : Type} (g : R → Option S) (kk : Bool → Option R) (list) : gq192.F (fun y0 => (kk y0).bind g) list = (gq192.F kk list).bind g := by
 simp only [gq192.F, grd_bind, cnd_bind, bnd_bind, non_bind]
def gq192 (list : List Int) : Option Bool := gq192.F (fun y0 => some y0) list
def gq192.out : Bool → CRes := fun a => ⟨encL SV.enc [.one (.bool)] (a, ()), [encL SC.enc [] ()]⟩
def gq192.ps : List PS := [.val [some ((.int .i64), false)]]
def gq192.sA : List SA := [.v (.one (.slv [] (.int .i64)))]
def gq192.fi : FI := FIs gq192.sA (Bool) (fun t => gq192 t.1) gq192.out gq192.ps
def gq192.E : Env := ⟨tt, lkF [(198, gq198.fi), (199, gq199.fi)], 6, 0, [], []⟩
theorem gq192.hok (hE : EOk Tryz.prog (gq192.E)) : HintOk Tryz.prog gq192.E (bodyOf Tryz.f192) (.a) := HintOk.n1 (Q := True) (by kernel_rfl) trivial
theorem gq192.hE : EOk Tryz.prog (gq192.E) := EOk.of ttOk (⟨gq198.fok, ⟨gq199.fok, trivial⟩⟩)
theorem gq192.fok : FOk Tryz.prog 192 gq192.fi :=
 fokS (E := gq192.E) (wy := ⟨[[none]], [[]], []⟩) (h := (fun gs => .a)) (G := fun t g => gq192.F (fun y0 => g y0) t.1) (by kernel_rfl) gq192.hE Tryz.func192 (by kernel_rfl) rfl (Nat.le_refl _) (fun t => HintOk.n1 (by kernel_rfl) (gq192.hok gq192.hE)) (fun t g => gq192.F_nat g (fun y0 => some y0) _) (fun t => by kernel_rfl)
def gq193.l1 {R : Type} (kke0 : Option R) (kkr : Bool → Option R) : Nat → List Int → Int → Option R
 | 0, _, _ => none
 | n + 1, list, i =>
  cond (decide (i < (List.length list : Int))) (
   grd (gIx (IntKind.wrap .i64 (i - (1 : Int))) (List.length list)) <|
   grd (gIx i (List.length list)) <|
   cond (decide ((rdE (.int .i64 : Kd) list (Int.toNat (IntKind.wrap .i64 (i - (1 : Int))))) ≥ (rdE (.int .i64 : Kd) list (Int.toNat i)))) (kkr false) (gq193.l1 kke0 kkr n list (IntKind.wrap .i64 (i + (1 : Int))))) (kke0)
theorem gq193.l1_nat {R S : Type} (g : R → Option S) (kke0 : Option R) (kkr : Bool → Option R) : ∀ n list i, gq193.l1 (kke0.bind g) (fun y0 => (kkr y0).bind g) n list i = (gq193.l1 kke0 kkr n list i).bind g := by
 intro n
 induction n with
 | zero => intros; rfl
 | succ n ih => intros; simp only [gq193.l1, grd_bind, cnd_bind, bnd_bind, non_bind, ih]
def gq193.F {R : Type} (kk : Bool → Option R) (list : List Int) : Option R :=
 gq193.l1 (kk true) (fun b => kk b) fuel list (1 : Int)
theorem gq193.F_nat {R S : Type} (g : R → Option S) (kk : Bool → Option R) (list) : gq193.F (fun y0 => (kk y0).bind g) list = (gq193.F kk list).bind g := by
 simp only [gq193.F, grd_bind, cnd_bind, bnd_bind, non_bind, ← gq193.l1_nat]
def gq193 (list : List Int) : Option Bool := gq193.F (fun y0 => some y0) list
def gq193.out : Bool → CRes := fun a => ⟨encL SV.enc [.one (.bool)] (a, ()), [encL SC.enc [] ()]⟩
def gq193.ps : List PS := [.val [some ((.int .i64), false)]]
def gq193.sA : List SA := [.v (.one (.slv [] (.int .i64)))]
def gq193.fi : FI := FIs gq193.sA (Bool) (fun t => gq193 t.1) gq193.out gq193.ps
def gq193.E : Env := ⟨tt, lkF [], 20, 0, [], []⟩
def gq193.sh1 : SK := ⟨[.v (.one (.slv [1] (.int .i64))), .v (.one (.int .i64))], []⟩
def gq193.sh1e0 : SK := ⟨[], []⟩
def gq193.sh1r : SK := ⟨[.v (.one (.bool))], []⟩
def gq193.ko1 : Ex → List CastAt × List Nat
 | .nrm => ([], [])
 | .ret => ([], [2])
 | .ext i => cond (Nat.beq i 0) ([], []) ([], [])
def gq193.G1 (n : Nat) (R : Type) (t : gq193.sh1.T) (K : Ex → Kp → Option R) : Option R := gq193.l1 (K (.ext 0) (SK.enc gq193.sh1e0 ((), ()))) (fun y0 => K .ret (SK.enc gq193.sh1r ((y0, ()), ()))) n t.1.1 t.1.2.1
def gq193.S1 : Sum := ⟨([], [0, 3]), sumF gq193.sh1 (gq193.G1 fuel), gq193.ko1⟩
theorem gq193.ok1 (hE : EOk Tryz.prog (gq193.E)) : SumOk Tryz.prog gq193.E (cB (cR (cL (cR (bodyOf Tryz.f193))))) (gq193.S1) := by
 have hh : HintOk Tryz.prog gq193.E (cB (cB (cR (cL (cR (bodyOf Tryz.f193)))))) (.a) := HintOk.n1 (Q := True) (by kernel_rfl) trivial
 have h := loopS (kin := ([], [0, 3])) (kout := gq193.ko1) (sh := gq193.sh1) (F := gq193.G1) (ops_ok (hE.gv _)) (by kernel_rfl) hh (fun _ _ _ => rfl) (fun n R t K => by kernel_rfl) fuel
 exact HintOk.n1 (c := (cB (cR (cL (cR (bodyOf Tryz.f193)))))) (h := .s (gq193.S1)) (P := Tryz.prog) (E := gq193.E) (by kernel_rfl) h
theorem gq193.hok (hE : EOk Tryz.prog (gq193.E)) : HintOk Tryz.prog gq193.E (bodyOf Tryz.f193) (.n (.a) (.n (.n (.a) (.b (.s (gq193.S1)))) (.a))) := HintOk.n1 (Q := (True) ∧ (((True) ∧ (SumOk Tryz.prog gq193.E (cB (cR (cL (cR (bodyOf Tryz.f193))))) (gq193.S1))) ∧ (True))) (by kernel_rfl) ⟨trivial, ⟨⟨trivial, (gq193.ok1 hE)⟩, trivial⟩⟩
theorem gq193.hE : EOk Tryz.prog (gq193.E) := EOk.of ttOk (trivial)
theorem gq193.fok : FOk Tryz.prog 193 gq193.fi :=
 fokS (E := gq193.E) (wy := ⟨[[none]], [[]], []⟩) (h := (fun gs => .n (.a) (.n (.n (.a) (.b (.s (gq193.S1)))) (.a)))) (G := fun t g => gq193.F (fun y0 => g y0) t.1) (by kernel_rfl) gq193.hE Tryz.func193 (by kernel_rfl) rfl (Nat.le_refl _) (fun t => HintOk.n1 (by kernel_rfl) (gq193.hok gq193.hE)) (fun t g => gq193.F_nat g (fun y0 => some y0) _) (fun t => by kernel_rfl)
def gq185.F {R : Type} (kk : Bool → Option R) (members : List Int) : Option R :=
 cond (decide ((List.length members : Int) > (0 : Int))) (
  (gq192 members).bind fun r =>
  cond (r) (
   (gq193 members).bind fun r1 =>
   kk r1) (kk false)) (kk false)
theorem gq185.F_nat {R S : Type} (g : R → Option S) (kk : Bool → Option R) (members) : gq185.F (fun y0 => (kk y0).bind g) members = (gq185.F kk members).bind g := by
 simp only [gq185.F, grd_bind, cnd_bind, bnd_bind, non_bind]
def gq185 (members : List Int) : Option Bool := gq185.F (fun y0 => some y0) members
def gq185.out : Bool → CRes := fun a => ⟨encL SV.enc [.one (.bool)] (a, ()), [encL SC.enc [] ()]⟩
def gq185.ps : List PS := [.val [some ((.int .i64), false)]]
def gq185.sA : List SA := [.v (.one (.slv [] (.int .i64)))]
def gq185.fi : FI := FIs gq185.sA (Bool) (fun t => gq185 t.1) gq185.out gq185.ps
def gq185.E : Env := ⟨tt, lkF [(192, gq192.fi), (193, gq193.fi)], 14, 0, [], []⟩
theorem gq185.hok (hE : EOk Tryz.prog (gq185.E)) : HintOk Tryz.prog gq185.E (bodyOf Tryz.f185) (.a) := HintOk.n1 (Q := True) (by kernel_rfl) trivial
theorem gq185.hE : EOk Tryz.prog (gq185.E) := EOk.of ttOk (⟨gq192.fok, ⟨gq193.fok, trivial⟩⟩)
theorem gq185.fok : FOk Tryz.prog 185 gq185.fi :=
 fokS (E := gq185.E) (wy := ⟨[[none]], [[]], []⟩) (h := (fun gs => .a)) (G := fun t g => gq185.F (fun y0 => g y0) t.1) (by kernel_rfl) gq185.hE Tryz.func185 (by kernel_rfl) rfl (Nat.le_refl _) (fun t => HintOk.n1 (by kernel_rfl) (gq185.hok gq185.hE)) (fun t g => gq185.F_nat g (fun y0 => some y0) _) (fun t => by kernel_rfl)
def gq166.l1 {R : Type} (kke0 : List Int → Option R) : Nat → ByteArray → Int → Int → List Int → Option R
 | 0, _, _, _, _ => none
 | n + 1, data, i, i1, out =>
  cond (decide (i1 < i)) (
   grd (gIx i1 (ByteArray.size data)) <|
   grd (gRm (((List.length out) + (List.length [IntKind.wrap .i64 (byteAt data i1)])) * 8)) <|
   gq166.l1 kke0 n data i (IntKind.wrap .i64 (i1 + (1 : Int))) (out ++ [IntKind.wrap .i64 (byteAt data i1)])) (kke0 out)
theorem gq166.l1_nat {R S : Type} (g : R → Option S) (kke0 : List Int → Option R) : ∀ n data i i1 out, gq166.l1 (fun y0 => (kke0 y0).bind g) n data i i1 out = (gq166.l1 kke0 n data i i1 out).bind g := by
 intro n
 induction n with
 | zero => intros; rfl
 | succ n ih => intros; simp only [gq166.l1, grd_bind, cnd_bind, bnd_bind, non_bind, ih]
def gq166.F {R : Type} (kk : List Int → Bool → Option R) (data : ByteArray) : Option R :=
 gq166.l1 (fun out =>
  (gq185 out).bind fun r =>
  kk out r) fuel data (ByteArray.size data : Int) (0 : Int) ([] : List Int)
theorem gq166.F_nat {R S : Type} (g : R → Option S) (kk : List Int → Bool → Option R) (data) : gq166.F (fun y0 y1 => (kk y0 y1).bind g) data = (gq166.F kk data).bind g := by
 simp only [gq166.F, grd_bind, cnd_bind, bnd_bind, non_bind, ← gq166.l1_nat]
def gq166 (data : ByteArray) : Option (List Int × Bool) := gq166.F (fun y0 y1 => some (y0, y1)) data
def gq166.out : (List Int × Bool) → CRes := fun a => ⟨encL SV.enc [.one (.own [] (.int .i64) true), .one (.bool)] (a.1, a.2, ()), [encL SC.enc [] ()]⟩
def gq166.ps : List PS := [.val [none]]
def gq166.sA : List SA := [.v (.one (.str))]
def gq166.fi : FI := FIs gq166.sA (List Int × Bool) (fun t => gq166 t.1) gq166.out gq166.ps
def gq166.E : Env := ⟨tt, lkF [(185, gq185.fi)], 23, 0, [], []⟩
def gq166.sh1 : SK := ⟨[.v (.one (.str)), .v (.one (.slo 0)), .v (.one (.int .i64)), .v (.one (.int .i64))], [.arr (.int .i64) [] true]⟩
def gq166.sh1e0 : SK := ⟨[.v (.one (.slo 0))], [.arr (.int .i64) [] true]⟩
def gq166.ko1 : Ex → List CastAt × List Nat
 | .nrm => ([], [])
 | .ret => ([], [])
 | .ext i => cond (Nat.beq i 0) ([], [4]) ([], [])
def gq166.G1 (n : Nat) (R : Type) (t : gq166.sh1.T) (K : Ex → Kp → Option R) : Option R := gq166.l1 (fun y0 => K (.ext 0) (SK.enc gq166.sh1e0 (((), ()), (y0, ())))) n t.1.1 t.1.2.2.1 t.1.2.2.2.1 t.2.1
def gq166.S1 : Sum := ⟨([], [0, 4, 8, 9]), sumF gq166.sh1 (gq166.G1 fuel), gq166.ko1⟩
theorem gq166.ok1 (hE : EOk Tryz.prog (gq166.E)) : SumOk Tryz.prog gq166.E (cB (cR (cL (cR (cR (bodyOf Tryz.f166)))))) (gq166.S1) := by
 have hh : HintOk Tryz.prog gq166.E (cB (cB (cR (cL (cR (cR (bodyOf Tryz.f166))))))) (.a) := HintOk.n1 (Q := True) (by kernel_rfl) trivial
 have h := loopS (kin := ([], [0, 4, 8, 9])) (kout := gq166.ko1) (sh := gq166.sh1) (F := gq166.G1) (ops_ok (hE.gv _)) (by kernel_rfl) hh (fun _ _ _ => rfl) (fun n R t K => by kernel_rfl) fuel
 exact HintOk.n1 (c := (cB (cR (cL (cR (cR (bodyOf Tryz.f166))))))) (h := .s (gq166.S1)) (P := Tryz.prog) (E := gq166.E) (by kernel_rfl) h
theorem gq166.hok (hE : EOk Tryz.prog (gq166.E)) : HintOk Tryz.prog gq166.E (bodyOf Tryz.f166) (.n (.a) (.n (.a) (.n (.n (.a) (.b (.s (gq166.S1)))) (.a)))) := HintOk.n1 (Q := (True) ∧ ((True) ∧ (((True) ∧ (SumOk Tryz.prog gq166.E (cB (cR (cL (cR (cR (bodyOf Tryz.f166)))))) (gq166.S1))) ∧ (True)))) (by kernel_rfl) ⟨trivial, ⟨trivial, ⟨⟨trivial, (gq166.ok1 hE)⟩, trivial⟩⟩⟩
theorem gq166.hE : EOk Tryz.prog (gq166.E) := EOk.of ttOk (⟨gq185.fok, trivial⟩)
theorem gq166.fok : FOk Tryz.prog 166 gq166.fi :=
 fokS (E := gq166.E) (wy := ⟨[[some ((.int .i64), true)], [none]], [[]], []⟩) (h := (fun gs => .n (.a) (.n (.a) (.n (.n (.a) (.b (.s (gq166.S1)))) (.a))))) (G := fun t g => gq166.F (fun y0 y1 => g (y0, y1)) t.1) (by kernel_rfl) gq166.hE Tryz.func166 (by kernel_rfl) rfl (Nat.le_refl _) (fun t => HintOk.n1 (by kernel_rfl) (gq166.hok gq166.hE)) (fun t g => gq166.F_nat g (fun y0 y1 => some (y0, y1)) _) (fun t => by kernel_rfl)
def gq146.F {R : Type} (kk : Bool → Option R) (e_Term : Int) (e_Kind : Int) (e_Data : ByteArray) : Option R :=
 (gq67 e_Term (1 : Int) (1000000 : Int)).bind fun r =>
 cond (!r) (kk false) (
  cond (e_Kind == (0 : Int)) (kk (sEq e_Data ByteArray.empty)) (
   cond (e_Kind == (1 : Int)) (
    (gq67 (ByteArray.size e_Data : Int) (1 : Int) (100 : Int)).bind fun r1 =>
    kk r1) (
    cond (e_Kind == (2 : Int)) (
     (gq166 e_Data).bind fun r2 =>
     kk r2.2) (kk false))))
theorem gq146.F_nat {R S : Type} (g : R → Option S) (kk : Bool → Option R) (e_Term e_Kind e_Data) : gq146.F (fun y0 => (kk y0).bind g) e_Term e_Kind e_Data = (gq146.F kk e_Term e_Kind e_Data).bind g := by
 simp only [gq146.F, grd_bind, cnd_bind, bnd_bind, non_bind]
def gq146 (e_Term : Int) (e_Kind : Int) (e_Data : ByteArray) : Option Bool := gq146.F (fun y0 => some y0) e_Term e_Kind e_Data
def gq146.out : Bool → CRes := fun a => ⟨encL SV.enc [.one (.bool)] (a, ()), [encL SC.enc [] ()]⟩
def gq146.ps : List PS := [.val [none, none, none]]
def gq146.sA : List SA := [.v (.agg [.int .i64, .int .i64, .str])]
def gq146.fi : FI := FIs gq146.sA (Bool) (fun t => gq146 t.1.1 t.1.2.1 t.1.2.2.1) gq146.out gq146.ps
def gq146.E : Env := ⟨tt, lkF [(67, gq67.fi), (166, gq166.fi)], 31, 0, [], []⟩
theorem gq146.hok (hE : EOk Tryz.prog (gq146.E)) : HintOk Tryz.prog gq146.E (bodyOf Tryz.f146) (.a) := HintOk.n1 (Q := True) (by kernel_rfl) trivial
theorem gq146.hE : EOk Tryz.prog (gq146.E) := EOk.of ttOk (⟨gq67.fok, ⟨gq166.fok, trivial⟩⟩)
theorem gq146.fok : FOk Tryz.prog 146 gq146.fi :=
 fokS (E := gq146.E) (wy := ⟨[[none]], [[]], []⟩) (h := (fun gs => .a)) (G := fun t g => gq146.F (fun y0 => g y0) t.1.1 t.1.2.1 t.1.2.2.1) (by kernel_rfl) gq146.hE Tryz.func146 (by kernel_rfl) rfl (Nat.le_refl _) (fun t => HintOk.n1 (by kernel_rfl) (gq146.hok gq146.hE)) (fun t g => gq146.F_nat g (fun y0 => some y0) _ _ _) (fun t => by kernel_rfl)
def gq92.l1 {R : Type} (kke0 : List (El kkb53) → Option R) (kkr : Bool → Option R) : Nat → List (El kkb53) → Int → List (El kkb53) → Int → Int → Option R
 | 0, _, _, _, _, _ => none
 | n + 1, log, term, l, i, i1 =>
  cond (decide (i1 < i)) (
   grd (gIx i1 (List.length l)) <|
   (gq146 ((rdE kkb53 l (Int.toNat i1)).1) ((rdE kkb53 l (Int.toNat i1)).2.1) ((rdE kkb53 l (Int.toNat i1)).2.2)).bind fun r =>
   cond (!r) (kkr false) (
    cond (decide ((rdE kkb53 l (Int.toNat i1)).1 > term)) (kkr false) (
     cond (decide (i1 > (0 : Int))) (
      grd (gIx (IntKind.wrap .i64 (i1 - (1 : Int))) (List.length log)) <|
      cond (decide ((rdE kkb53 log (Int.toNat (IntKind.wrap .i64 (i1 - (1 : Int))))).1 > (rdE kkb53 l (Int.toNat i1)).1)) (kkr false) (gq92.l1 kke0 kkr n log term l i (IntKind.wrap .i64 (i1 + (1 : Int))))) (gq92.l1 kke0 kkr n log term l i (IntKind.wrap .i64 (i1 + (1 : Int))))))) (kke0 log)
theorem gq92.l1_nat {R S : Type} (g : R → Option S) (kke0 : List (El kkb53) → Option R) (kkr : Bool → Option R) : ∀ n log term l i i1, gq92.l1 (fun y0 => (kke0 y0).bind g) (fun y0 => (kkr y0).bind g) n log term l i i1 = (gq92.l1 kke0 kkr n log term l i i1).bind g := by
 intro n
 induction n with
 | zero => intros; rfl
 | succ n ih => intros; simp only [gq92.l1, grd_bind, cnd_bind, bnd_bind, non_bind, ih]
def gq92.F {R : Type} (kk : Bool → Option R) (log : List (El kkb53)) (term : Int) : Option R :=
 gq92.l1 (fun log1 => kk (decide ((List.length log1 : Int) ≤ (60 : Int)))) (fun b => kk b) fuel log term log (List.length log : Int) (0 : Int)
theorem gq92.F_nat {R S : Type} (g : R → Option S) (kk : Bool → Option R) (log term) : gq92.F (fun y0 => (kk y0).bind g) log term = (gq92.F kk log term).bind g := by
 simp only [gq92.F, grd_bind, cnd_bind, bnd_bind, non_bind, ← gq92.l1_nat]
def gq92 (log : List (El kkb53)) (term : Int) : Option Bool := gq92.F (fun y0 => some y0) log term
def gq92.out : Bool → CRes := fun a => ⟨encL SV.enc [.one (.bool)] (a, ()), [encL SC.enc [] (), encL SC.enc [] ()]⟩
def gq92.ps : List PS := [.val [some (kkb53, false)], .val [none]]
def gq92.sA : List SA := [.v (.one (.slv [] kkb53)), .v (.one (.int .i64))]
def gq92.fi : FI := FIs gq92.sA (Bool) (fun t => gq92 t.1 t.2.1) gq92.out gq92.ps
def gq92.E : Env := ⟨tt, lkF [(146, gq146.fi)], 42, 0, [], []⟩
def gq92.sh1 : SK := ⟨[.v (.one (.slv [1] kkb53)), .v (.one (.int .i64)), .v (.one (.slv [1] kkb53)), .v (.one (.int .i64)), .v (.one (.int .i64))], []⟩
def gq92.sh1e0 : SK := ⟨[.v (.one (.slv [1] kkb53))], []⟩
def gq92.sh1r : SK := ⟨[.v (.one (.bool))], []⟩
def gq92.ko1 : Ex → List CastAt × List Nat
 | .nrm => ([], [])
 | .ret => ([], [4])
 | .ext i => cond (Nat.beq i 0) ([], [0]) ([], [])
def gq92.G1 (n : Nat) (R : Type) (t : gq92.sh1.T) (K : Ex → Kp → Option R) : Option R := gq92.l1 (fun y0 => K (.ext 0) (SK.enc gq92.sh1e0 ((y0, ()), ()))) (fun y0 => K .ret (SK.enc gq92.sh1r ((y0, ()), ()))) n t.1.1 t.1.2.1 t.1.2.2.1 t.1.2.2.2.1 t.1.2.2.2.2.1
def gq92.S1 : Sum := ⟨([], [0, 1, 7, 8, 9]), sumF gq92.sh1 (gq92.G1 fuel), gq92.ko1⟩
theorem gq92.ok1 (hE : EOk Tryz.prog (gq92.E)) : SumOk Tryz.prog gq92.E (cB (cR (cL (cR (bodyOf Tryz.f92))))) (gq92.S1) := by
 have hh : HintOk Tryz.prog gq92.E (cB (cB (cR (cL (cR (bodyOf Tryz.f92)))))) (.a) := HintOk.n1 (Q := True) (by kernel_rfl) trivial
 have h := loopS (kin := ([], [0, 1, 7, 8, 9])) (kout := gq92.ko1) (sh := gq92.sh1) (F := gq92.G1) (ops_ok (hE.gv _)) (by kernel_rfl) hh (fun _ _ _ => rfl) (fun n R t K => by kernel_rfl) fuel
 exact HintOk.n1 (c := (cB (cR (cL (cR (bodyOf Tryz.f92)))))) (h := .s (gq92.S1)) (P := Tryz.prog) (E := gq92.E) (by kernel_rfl) h
theorem gq92.hok (hE : EOk Tryz.prog (gq92.E)) : HintOk Tryz.prog gq92.E (bodyOf Tryz.f92) (.n (.a) (.n (.n (.a) (.b (.s (gq92.S1)))) (.a))) := HintOk.n1 (Q := (True) ∧ (((True) ∧ (SumOk Tryz.prog gq92.E (cB (cR (cL (cR (bodyOf Tryz.f92))))) (gq92.S1))) ∧ (True))) (by kernel_rfl) ⟨trivial, ⟨⟨trivial, (gq92.ok1 hE)⟩, trivial⟩⟩
theorem gq92.hE : EOk Tryz.prog (gq92.E) := EOk.of ttOk (⟨gq146.fok, trivial⟩)
theorem gq92.fok : FOk Tryz.prog 92 gq92.fi :=
 fokS (E := gq92.E) (wy := ⟨[[none]], [[], []], []⟩) (h := (fun gs => .n (.a) (.n (.n (.a) (.b (.s (gq92.S1)))) (.a)))) (G := fun t g => gq92.F (fun y0 => g y0) t.1 t.2.1) (by kernel_rfl) gq92.hE Tryz.func92 (by kernel_rfl) rfl (Nat.le_refl _) (fun t => HintOk.n1 (by kernel_rfl) (gq92.hok gq92.hE)) (fun t g => gq92.F_nat g (fun y0 => some y0) _ _) (fun t => by kernel_rfl)
def gq47.F {R : Type} (kk : Bool → Option R) (s_Term : Int) (s_Vote : Int) (s_Log : List (El kkb53)) : Option R :=
 (gq67 s_Term (0 : Int) (1000000 : Int)).bind fun r =>
 cond (r) (
  (gq67 s_Vote (-1 : Int) (6 : Int)).bind fun r1 =>
  cond (r1) (
   (gq92 s_Log s_Term).bind fun r2 =>
   kk r2) (kk false)) (kk false)
theorem gq47.F_nat {R S : Type} (g : R → Option S) (kk : Bool → Option R) (s_Term s_Vote s_Log) : gq47.F (fun y0 => (kk y0).bind g) s_Term s_Vote s_Log = (gq47.F kk s_Term s_Vote s_Log).bind g := by
 simp only [gq47.F, grd_bind, cnd_bind, bnd_bind, non_bind]
def gq47 (s_Term : Int) (s_Vote : Int) (s_Log : List (El kkb53)) : Option Bool := gq47.F (fun y0 => some y0) s_Term s_Vote s_Log
def gq47.out : Bool → CRes := fun a => ⟨encL SV.enc [.one (.bool)] (a, ()), [encL SC.enc [] ()]⟩
def gq47.ps : List PS := [.val [none, none, some (kkb53, false)]]
def gq47.sA : List SA := [.v (.agg [.int .i64, .int .i64, .slv [] kkb53])]
def gq47.fi : FI := FIs gq47.sA (Bool) (fun t => gq47 t.1.1 t.1.2.1 t.1.2.2.1) gq47.out gq47.ps
def gq47.E : Env := ⟨tt, lkF [(67, gq67.fi), (92, gq92.fi)], 18, 0, [], []⟩
theorem gq47.hok (hE : EOk Tryz.prog (gq47.E)) : HintOk Tryz.prog gq47.E (bodyOf Tryz.f47) (.a) := HintOk.n1 (Q := True) (by kernel_rfl) trivial
theorem gq47.hE : EOk Tryz.prog (gq47.E) := EOk.of ttOk (⟨gq67.fok, ⟨gq92.fok, trivial⟩⟩)
theorem gq47.fok : FOk Tryz.prog 47 gq47.fi :=
 fokS (E := gq47.E) (wy := ⟨[[none]], [[]], []⟩) (h := (fun gs => .a)) (G := fun t g => gq47.F (fun y0 => g y0) t.1.1 t.1.2.1 t.1.2.2.1) (by kernel_rfl) gq47.hE Tryz.func47 (by kernel_rfl) rfl (Nat.le_refl _) (fun t => HintOk.n1 (by kernel_rfl) (gq47.hok gq47.hE)) (fun t g => gq47.F_nat g (fun y0 => some y0) _ _ _) (fun t => by kernel_rfl)
def gq101.F {R : Type} (kk : List (El kFile) → Option R) (s : List (El kFile)) : Option R :=
 cond (List.isEmpty s) (
  agree (kk []) (
   grd (gRm (((List.length ([] : List (El kFile))) + (List.length s)) * 40)) <|
   kk (([] : List (El kFile)) ++ s))) (
  grd (gRm (((List.length ([] : List (El kFile))) + (List.length s)) * 40)) <|
  kk (([] : List (El kFile)) ++ s))
theorem gq101.F_nat {R S : Type} (g : R → Option S) (kk : List (El kFile) → Option R) (s) : gq101.F (fun y0 => (kk y0).bind g) s = (gq101.F kk s).bind g := by
 cases s with
 | nil =>
  have e : ∀ {R : Type} (k : List (El kFile) → Option R), gq101.F k [] = agree (k []) (k []) := fun k => by kernel_rfl
  rw [e, e, agree_self, agree_self]
 | cons x l => simp only [gq101.F, List.isEmpty_cons, cond_false, grd_bind]
def gq101 (s : List (El kFile)) : Option (List (El kFile)) := gq101.F (fun y0 => some y0) s
def gq101.out : (List (El kFile)) → CRes := fun a => ⟨encL SV.enc [.one (.own [] kFile true)] (a, ()), [encL SC.enc [] ()]⟩
def gq101.ps : List PS := [.val [some (kFile, false)]]
def gq101.sA : List SA := [.v (.one (.slv [] kFile))]
def gq101.fi : FI := FIs gq101.sA (List (El kFile)) (fun t => gq101 t.1) gq101.out gq101.ps
def gq101.E : Env := ⟨tt, lkF [], 8, 0, [], []⟩
theorem gq101.hok (hE : EOk Tryz.prog (gq101.E)) : HintOk Tryz.prog gq101.E (bodyOf Tryz.f101) (.a) := HintOk.n1 (Q := True) (by kernel_rfl) trivial
theorem gq101.hE : EOk Tryz.prog (gq101.E) := EOk.of ttOk (trivial)
theorem gq101.fok : FOk Tryz.prog 101 gq101.fi :=
 fokS (E := gq101.E) (wy := ⟨[[some (kFile, true)]], [[]], []⟩) (h := (fun gs => .a)) (G := fun t g => gq101.F (fun y0 => g y0) t.1) (by kernel_rfl) gq101.hE Tryz.func101 (by kernel_rfl) rfl (Nat.le_refl _) (fun t => HintOk.n1 (by kernel_rfl) (gq101.hok gq101.hE)) (fun t g => gq101.F_nat g (fun y0 => some y0) _) (fun t => by kernel_rfl)
def gq53.F {R : Type} (kk : Int → List (El kFile) → Option R) (d_Room : Int) (d_Files : List (El kFile)) : Option R :=
 (gq101 d_Files).bind fun r =>
 kk d_Room r
theorem gq53.F_nat {R S : Type} (g : R → Option S) (kk : Int → List (El kFile) → Option R) (d_Room d_Files) : gq53.F (fun y0 y1 => (kk y0 y1).bind g) d_Room d_Files = (gq53.F kk d_Room d_Files).bind g := by
 simp only [gq53.F, grd_bind, cnd_bind, bnd_bind, non_bind]
def gq53 (d_Room : Int) (d_Files : List (El kFile)) : Option (Int × List (El kFile)) := gq53.F (fun y0 y1 => some (y0, y1)) d_Room d_Files
def gq53.out : (Int × List (El kFile)) → CRes := fun a => ⟨encL SV.enc [.agg [.int .i64, .own [] kFile true]] ((a.1, a.2, ()), ()), [encL SC.enc [] ()]⟩
def gq53.ps : List PS := [.val [none, some (kFile, false)]]
def gq53.sA : List SA := [.v (.agg [.int .i64, .slv [] kFile])]
def gq53.fi : FI := FIs gq53.sA (Int × List (El kFile)) (fun t => gq53 t.1.1 t.1.2.1) gq53.out gq53.ps
def gq53.E : Env := ⟨tt, lkF [(101, gq101.fi)], 9, 0, [], []⟩
theorem gq53.hok (hE : EOk Tryz.prog (gq53.E)) : HintOk Tryz.prog gq53.E (bodyOf Tryz.f53) (.a) := HintOk.n1 (Q := True) (by kernel_rfl) trivial
theorem gq53.hE : EOk Tryz.prog (gq53.E) := EOk.of ttOk (⟨gq101.fok, trivial⟩)
theorem gq53.fok : FOk Tryz.prog 53 gq53.fi :=
 fokS (E := gq53.E) (wy := ⟨[[none, some (kFile, true)]], [[]], []⟩) (h := (fun gs => .a)) (G := fun t g => gq53.F (fun y0 y1 => g (y0, y1)) t.1.1 t.1.2.1) (by kernel_rfl) gq53.hE Tryz.func53 (by kernel_rfl) rfl (Nat.le_refl _) (fun t => HintOk.n1 (by kernel_rfl) (gq53.hok gq53.hE)) (fun t g => gq53.F_nat g (fun y0 y1 => some (y0, y1)) _ _) (fun t => by kernel_rfl)
def gq113.l1 {R : Type} (kke0 : Int → Option R) : Nat → Int → List (El kFile) → Int → Int → Option R
 | 0, _, _, _, _ => none
 | n + 1, sum, l, i, i1 =>
  cond (decide (i1 < i)) (
   grd (gIx i1 (List.length l)) <|
   gq113.l1 kke0 n (IntKind.wrap .i64 (sum + (ByteArray.size (rdE kFile l (Int.toNat i1)).2.1 : Int))) l i (IntKind.wrap .i64 (i1 + (1 : Int)))) (kke0 sum)
theorem gq113.l1_nat {R S : Type} (g : R → Option S) (kke0 : Int → Option R) : ∀ n sum l i i1, gq113.l1 (fun y0 => (kke0 y0).bind g) n sum l i i1 = (gq113.l1 kke0 n sum l i i1).bind g := by
 intro n
 induction n with
 | zero => intros; rfl
 | succ n ih => intros; simp only [gq113.l1, grd_bind, cnd_bind, bnd_bind, non_bind, ih]
def gq113.F {R : Type} (kk : Int → Option R) (d_Room : Int) (d_Files : List (El kFile)) : Option R :=
 gq113.l1 (fun sum => kk sum) fuel (0 : Int) d_Files (List.length d_Files : Int) (0 : Int)
theorem gq113.F_nat {R S : Type} (g : R → Option S) (kk : Int → Option R) (d_Room d_Files) : gq113.F (fun y0 => (kk y0).bind g) d_Room d_Files = (gq113.F kk d_Room d_Files).bind g := by
 simp only [gq113.F, grd_bind, cnd_bind, bnd_bind, non_bind, ← gq113.l1_nat]
def gq113 (d_Room : Int) (d_Files : List (El kFile)) : Option Int := gq113.F (fun y0 => some y0) d_Room d_Files
def gq113.out : Int → CRes := fun a => ⟨encL SV.enc [.one (.int .i64)] (a, ()), [encL SC.enc [] ()]⟩
def gq113.ps : List PS := [.val [none, some (kFile, false)]]
def gq113.sA : List SA := [.v (.agg [.int .i64, .slv [] kFile])]
def gq113.fi : FI := FIs gq113.sA (Int) (fun t => gq113 t.1.1 t.1.2.1) gq113.out gq113.ps
def gq113.E : Env := ⟨tt, lkF [], 20, 0, [], []⟩
def gq113.sh1 : SK := ⟨[.v (.one (.int .i64)), .v (.one (.slv [1] kFile)), .v (.one (.int .i64)), .v (.one (.int .i64))], []⟩
def gq113.sh1e0 : SK := ⟨[.v (.one (.int .i64))], []⟩
def gq113.ko1 : Ex → List CastAt × List Nat
 | .nrm => ([], [])
 | .ret => ([], [])
 | .ext i => cond (Nat.beq i 0) ([], [3]) ([], [])
def gq113.G1 (n : Nat) (R : Type) (t : gq113.sh1.T) (K : Ex → Kp → Option R) : Option R := gq113.l1 (fun y0 => K (.ext 0) (SK.enc gq113.sh1e0 ((y0, ()), ()))) n t.1.1 t.1.2.1 t.1.2.2.1 t.1.2.2.2.1
def gq113.S1 : Sum := ⟨([], [3, 7, 8, 9]), sumF gq113.sh1 (gq113.G1 fuel), gq113.ko1⟩
theorem gq113.ok1 (hE : EOk Tryz.prog (gq113.E)) : SumOk Tryz.prog gq113.E (cB (cR (cL (cR (cR (bodyOf Tryz.f113)))))) (gq113.S1) := by
 have hh : HintOk Tryz.prog gq113.E (cB (cB (cR (cL (cR (cR (bodyOf Tryz.f113))))))) (.a) := HintOk.n1 (Q := True) (by kernel_rfl) trivial
 have h := loopS (kin := ([], [3, 7, 8, 9])) (kout := gq113.ko1) (sh := gq113.sh1) (F := gq113.G1) (ops_ok (hE.gv _)) (by kernel_rfl) hh (fun _ _ _ => rfl) (fun n R t K => by kernel_rfl) fuel
 exact HintOk.n1 (c := (cB (cR (cL (cR (cR (bodyOf Tryz.f113))))))) (h := .s (gq113.S1)) (P := Tryz.prog) (E := gq113.E) (by kernel_rfl) h
theorem gq113.hok (hE : EOk Tryz.prog (gq113.E)) : HintOk Tryz.prog gq113.E (bodyOf Tryz.f113) (.n (.a) (.n (.a) (.n (.n (.a) (.b (.s (gq113.S1)))) (.a)))) := HintOk.n1 (Q := (True) ∧ ((True) ∧ (((True) ∧ (SumOk Tryz.prog gq113.E (cB (cR (cL (cR (cR (bodyOf Tryz.f113)))))) (gq113.S1))) ∧ (True)))) (by kernel_rfl) ⟨trivial, ⟨trivial, ⟨⟨trivial, (gq113.ok1 hE)⟩, trivial⟩⟩⟩
theorem gq113.hE : EOk Tryz.prog (gq113.E) := EOk.of ttOk (trivial)
theorem gq113.fok : FOk Tryz.prog 113 gq113.fi :=
 fokS (E := gq113.E) (wy := ⟨[[none]], [[]], []⟩) (h := (fun gs => .n (.a) (.n (.a) (.n (.n (.a) (.b (.s (gq113.S1)))) (.a))))) (G := fun t g => gq113.F (fun y0 => g y0) t.1.1 t.1.2.1) (by kernel_rfl) gq113.hE Tryz.func113 (by kernel_rfl) rfl (Nat.le_refl _) (fun t => HintOk.n1 (by kernel_rfl) (gq113.hok gq113.hE)) (fun t g => gq113.F_nat g (fun y0 => some y0) _ _) (fun t => by kernel_rfl)
def gq114.j1 {R : Type} (kkn : ByteArray → Int → Int → Bool → Int → Int → Option R) (t_ : ByteArray) (i : Int) (b : Int) (i1 : Int) (i2 : Int) : Option R :=
 cond (decide (b ≥ (97 : Int))) (
  cond (decide (b ≤ (122 : Int))) (kkn t_ i b true i1 i2) (
   cond (decide (b ≥ (65 : Int))) (cond (decide (b ≤ (90 : Int))) (kkn t_ i b true i1 i2) (kkn t_ i b (b == (95 : Int)) i1 i2)) (kkn t_ i b (b == (95 : Int)) i1 i2))) (
  cond (decide (b ≥ (65 : Int))) (cond (decide (b ≤ (90 : Int))) (kkn t_ i b true i1 i2) (kkn t_ i b (b == (95 : Int)) i1 i2)) (kkn t_ i b (b == (95 : Int)) i1 i2))
theorem gq114.j1_nat {R S : Type} (g : R → Option S) (kkn : ByteArray → Int → Int → Bool → Int → Int → Option R) (t_ i b i1 i2) : gq114.j1 (fun y0 y1 y2 y3 y4 y5 => (kkn y0 y1 y2 y3 y4 y5).bind g) t_ i b i1 i2 = (gq114.j1 kkn t_ i b i1 i2).bind g := by
 simp only [gq114.j1, grd_bind, cnd_bind, bnd_bind, non_bind]
def gq114.l2 {R : Type} (kke0 : ByteArray → Option R) (kkr : Bool → Option R) : Nat → ByteArray → Int → Int → Option R
 | 0, _, _, _ => none
 | n + 1, t_, i, i1 =>
  cond (decide (i1 < i)) (
   grd (gIx i1 (ByteArray.size t_)) <|
   gq114.j1 (fun t_1 i2 b letter i3 i4 =>
    cond (!letter) (
     cond (i2 == (0 : Int)) (kkr false) (
      cond (decide (b < (48 : Int))) (kkr false) (
       cond (decide (b > (57 : Int))) (kkr false) (gq114.l2 kke0 kkr n t_1 i3 (IntKind.wrap .i64 (i4 + (1 : Int))))))) (gq114.l2 kke0 kkr n t_1 i3 (IntKind.wrap .i64 (i4 + (1 : Int))))) t_ i1 (byteAt t_ i1) i i1) (kke0 t_)
theorem gq114.l2_nat {R S : Type} (g : R → Option S) (kke0 : ByteArray → Option R) (kkr : Bool → Option R) : ∀ n t_ i i1, gq114.l2 (fun y0 => (kke0 y0).bind g) (fun y0 => (kkr y0).bind g) n t_ i i1 = (gq114.l2 kke0 kkr n t_ i i1).bind g := by
 intro n
 induction n with
 | zero => intros; rfl
 | succ n ih => intros; simp only [gq114.l2, grd_bind, cnd_bind, bnd_bind, non_bind, ← gq114.j1_nat, ih]
def gq114.F {R : Type} (kk : Bool → Option R) (t_ : ByteArray) : Option R :=
 gq114.l2 (fun t_1 =>
  (gq67 (ByteArray.size t_1 : Int) (1 : Int) (40 : Int)).bind fun r =>
  kk r) (fun b => kk b) fuel t_ (ByteArray.size t_ : Int) (0 : Int)
theorem gq114.F_nat {R S : Type} (g : R → Option S) (kk : Bool → Option R) (t_) : gq114.F (fun y0 => (kk y0).bind g) t_ = (gq114.F kk t_).bind g := by
 simp only [gq114.F, grd_bind, cnd_bind, bnd_bind, non_bind, ← gq114.l2_nat]
def gq114 (t_ : ByteArray) : Option Bool := gq114.F (fun y0 => some y0) t_
def gq114.out : Bool → CRes := fun a => ⟨encL SV.enc [.one (.bool)] (a, ()), [encL SC.enc [] ()]⟩
def gq114.ps : List PS := [.val [none]]
def gq114.sA : List SA := [.v (.one (.str))]
def gq114.fi : FI := FIs gq114.sA (Bool) (fun t => gq114 t.1) gq114.out gq114.ps
def gq114.E : Env := ⟨tt, lkF [(67, gq67.fi)], 50, 0, [], []⟩
def gq114.sh1 : SK := ⟨[.v (.one (.str)), .v (.one (.int .i64)), .v (.one (.int .u8)), .v (.one (.int .i64)), .v (.one (.int .i64))], []⟩
def gq114.sh1n : SK := ⟨[.v (.one (.str)), .v (.one (.int .i64)), .v (.one (.int .u8)), .v (.one (.bool)), .v (.one (.int .i64)), .v (.one (.int .i64))], []⟩
def gq114.ko1 : Ex → List CastAt × List Nat
 | .nrm => ([], [0, 3, 4, 5, 7, 8])
 | .ret => ([], [])
 | .ext i => ([], [])
def gq114.G1 (R : Type) (t : gq114.sh1.T) (K : Ex → Kp → Option R) : Option R := gq114.j1 (fun y0 y1 y2 y3 y4 y5 => K .nrm (SK.enc gq114.sh1n ((y0, y1, y2, y3, y4, y5, ()), ()))) t.1.1 t.1.2.1 t.1.2.2.1 t.1.2.2.2.1 t.1.2.2.2.2.1
def gq114.S1 : Sum := ⟨([], [0, 3, 4, 7, 8]), sumF gq114.sh1 (gq114.G1), gq114.ko1⟩
theorem gq114.ok1 (hE : EOk Tryz.prog (gq114.E)) : SumOk Tryz.prog gq114.E (cL (cR (cR (cB (cL (cR (cR (cB (cB (cR (cL (cR (bodyOf Tryz.f114))))))))))))) (gq114.S1) := by
 have hh : HintOk Tryz.prog gq114.E (cL (cR (cR (cB (cL (cR (cR (cB (cB (cR (cL (cR (bodyOf Tryz.f114))))))))))))) (.a) := HintOk.n1 (Q := True) (by kernel_rfl) trivial
 exact sumS (kin := ([], [0, 3, 4, 7, 8])) (kout := gq114.ko1) (sh := gq114.sh1) (F := gq114.G1) (ops_ok (hE.gv _)) (by kernel_rfl) hh (fun R t K => by kernel_rfl)
def gq114.sh2 : SK := ⟨[.v (.one (.str)), .v (.one (.int .i64)), .v (.one (.int .i64))], []⟩
def gq114.sh2e0 : SK := ⟨[.v (.one (.str))], []⟩
def gq114.sh2r : SK := ⟨[.v (.one (.bool))], []⟩
def gq114.ko2 : Ex → List CastAt × List Nat
 | .nrm => ([], [])
 | .ret => ([], [2])
 | .ext i => cond (Nat.beq i 0) ([], [0]) ([], [])
def gq114.G2 (n : Nat) (R : Type) (t : gq114.sh2.T) (K : Ex → Kp → Option R) : Option R := gq114.l2 (fun y0 => K (.ext 0) (SK.enc gq114.sh2e0 ((y0, ()), ()))) (fun y0 => K .ret (SK.enc gq114.sh2r ((y0, ()), ()))) n t.1.1 t.1.2.1 t.1.2.2.1
def gq114.S2 : Sum := ⟨([], [0, 7, 8]), sumF gq114.sh2 (gq114.G2 fuel), gq114.ko2⟩
theorem gq114.ok2 (hE : EOk Tryz.prog (gq114.E)) : SumOk Tryz.prog gq114.E (cB (cR (cL (cR (bodyOf Tryz.f114))))) (gq114.S2) := by
 have hh : HintOk Tryz.prog gq114.E (cB (cB (cR (cL (cR (bodyOf Tryz.f114)))))) (.n (.a) (.n (.a) (.n (.b (.n (.a) (.n (.a) (.n (.s (gq114.S1)) (.a))))) (.a)))) := HintOk.n1 (Q := (True) ∧ ((True) ∧ (((True) ∧ ((True) ∧ ((SumOk Tryz.prog gq114.E (cL (cR (cR (cB (cL (cR (cR (cB (cB (cR (cL (cR (bodyOf Tryz.f114))))))))))))) (gq114.S1)) ∧ (True)))) ∧ (True)))) (by kernel_rfl) ⟨trivial, ⟨trivial, ⟨⟨trivial, ⟨trivial, ⟨(gq114.ok1 hE), trivial⟩⟩⟩, trivial⟩⟩⟩
 have h := loopS (kin := ([], [0, 7, 8])) (kout := gq114.ko2) (sh := gq114.sh2) (F := gq114.G2) (ops_ok (hE.gv _)) (by kernel_rfl) hh (fun _ _ _ => rfl) (fun n R t K => by kernel_rfl) fuel
 exact HintOk.n1 (c := (cB (cR (cL (cR (bodyOf Tryz.f114)))))) (h := .s (gq114.S2)) (P := Tryz.prog) (E := gq114.E) (by kernel_rfl) h
theorem gq114.hok (hE : EOk Tryz.prog (gq114.E)) : HintOk Tryz.prog gq114.E (bodyOf Tryz.f114) (.n (.a) (.n (.n (.a) (.b (.s (gq114.S2)))) (.a))) := HintOk.n1 (Q := (True) ∧ (((True) ∧ (SumOk Tryz.prog gq114.E (cB (cR (cL (cR (bodyOf Tryz.f114))))) (gq114.S2))) ∧ (True))) (by kernel_rfl) ⟨trivial, ⟨⟨trivial, (gq114.ok2 hE)⟩, trivial⟩⟩
theorem gq114.hE : EOk Tryz.prog (gq114.E) := EOk.of ttOk (⟨gq67.fok, trivial⟩)
theorem gq114.fok : FOk Tryz.prog 114 gq114.fi :=
 fokS (E := gq114.E) (wy := ⟨[[none]], [[]], []⟩) (h := (fun gs => .n (.a) (.n (.n (.a) (.b (.s (gq114.S2)))) (.a)))) (G := fun t g => gq114.F (fun y0 => g y0) t.1) (by kernel_rfl) gq114.hE Tryz.func114 (by kernel_rfl) rfl (Nat.le_refl _) (fun t => HintOk.n1 (by kernel_rfl) (gq114.hok gq114.hE)) (fun t g => gq114.F_nat g (fun y0 => some y0) _) (fun t => by kernel_rfl)
def gq65.l1 {R : Type} (kke0 : Option R) (kkr : Bool → Option R) : Nat → List (El kFile) → Int → Int → Int → List (El kFile) → Option R
 | 0, _, _, _, _, _ => none
 | n + 1, l, i, i1, d, d1 =>
  cond (decide (i1 < i)) (
   grd (gIx i1 (List.length l)) <|
   (gq114 ((rdE kFile l (Int.toNat i1)).1)).bind fun r =>
   cond (!r) (kkr false) (
    cond (decide (i1 > (0 : Int))) (
     grd (gIx (IntKind.wrap .i64 (i1 - (1 : Int))) (List.length d1)) <|
     cond (!(sLt (rdE kFile d1 (Int.toNat (IntKind.wrap .i64 (i1 - (1 : Int))))).1 (rdE kFile l (Int.toNat i1)).1)) (kkr false) (
      (gq67 ((rdE kFile l (Int.toNat i1)).2.2) (0 : Int) (ByteArray.size (rdE kFile l (Int.toNat i1)).2.1 : Int)).bind fun r1 =>
      cond (!r1) (kkr false) (gq65.l1 kke0 kkr n l i (IntKind.wrap .i64 (i1 + (1 : Int))) d d1))) (
     (gq67 ((rdE kFile l (Int.toNat i1)).2.2) (0 : Int) (ByteArray.size (rdE kFile l (Int.toNat i1)).2.1 : Int)).bind fun r2 =>
     cond (!r2) (kkr false) (gq65.l1 kke0 kkr n l i (IntKind.wrap .i64 (i1 + (1 : Int))) d d1)))) (kke0)
theorem gq65.l1_nat {R S : Type} (g : R → Option S) (kke0 : Option R) (kkr : Bool → Option R) : ∀ n l i i1 d d1, gq65.l1 (kke0.bind g) (fun y0 => (kkr y0).bind g) n l i i1 d d1 = (gq65.l1 kke0 kkr n l i i1 d d1).bind g := by
 intro n
 induction n with
 | zero => intros; rfl
 | succ n ih => intros; simp only [gq65.l1, grd_bind, cnd_bind, bnd_bind, non_bind, ih]
def gq65.F {R : Type} (kk : Bool → Option R) (d_Room : Int) (d_Files : List (El kFile)) : Option R :=
 (gq67 d_Room (0 : Int) (3000 : Int)).bind fun r =>
 cond (!r) (kk false) (
  cond (decide ((List.length d_Files : Int) > (8 : Int))) (kk false) (
   (gq113 d_Room d_Files).bind fun r1 =>
   cond (decide (r1 > d_Room)) (kk false) (
    gq65.l1 (kk true) (fun b => kk b) fuel d_Files (List.length d_Files : Int) (0 : Int) d_Room d_Files)))
theorem gq65.F_nat {R S : Type} (g : R → Option S) (kk : Bool → Option R) (d_Room d_Files) : gq65.F (fun y0 => (kk y0).bind g) d_Room d_Files = (gq65.F kk d_Room d_Files).bind g := by
 simp only [gq65.F, grd_bind, cnd_bind, bnd_bind, non_bind, ← gq65.l1_nat]
def gq65 (d_Room : Int) (d_Files : List (El kFile)) : Option Bool := gq65.F (fun y0 => some y0) d_Room d_Files
def gq65.out : Bool → CRes := fun a => ⟨encL SV.enc [.one (.bool)] (a, ()), [encL SC.enc [] ()]⟩
def gq65.ps : List PS := [.val [none, some (kFile, false)]]
def gq65.sA : List SA := [.v (.agg [.int .i64, .slv [] kFile])]
def gq65.fi : FI := FIs gq65.sA (Bool) (fun t => gq65 t.1.1 t.1.2.1) gq65.out gq65.ps
def gq65.E : Env := ⟨tt, lkF [(67, gq67.fi), (113, gq113.fi), (114, gq114.fi)], 60, 0, [], []⟩
def gq65.sh1 : SK := ⟨[.v (.one (.bptr 0 0)), .v (.one (.slv [1] kFile)), .v (.one (.int .i64)), .v (.one (.int .i64))], [.box [.int .i64, .slv [1] kFile]]⟩
def gq65.sh1e0 : SK := ⟨[], []⟩
def gq65.sh1r : SK := ⟨[.v (.one (.bool))], []⟩
def gq65.ko1 : Ex → List CastAt × List Nat
 | .nrm => ([], [])
 | .ret => ([], [2])
 | .ext i => cond (Nat.beq i 0) ([], []) ([], [])
def gq65.G1 (n : Nat) (R : Type) (t : gq65.sh1.T) (K : Ex → Kp → Option R) : Option R := gq65.l1 (K (.ext 0) (SK.enc gq65.sh1e0 ((), ()))) (fun y0 => K .ret (SK.enc gq65.sh1r ((y0, ()), ()))) n t.1.2.1 t.1.2.2.1 t.1.2.2.2.1 t.2.1.1 t.2.1.2.1
def gq65.S1 : Sum := ⟨([], [1, 23, 24, 25]), sumF gq65.sh1 (gq65.G1 fuel), gq65.ko1⟩
theorem gq65.ok1 (hE : EOk Tryz.prog (gq65.E)) : SumOk Tryz.prog gq65.E (cB (cR (cL (cR (cR (bodyOf Tryz.f65)))))) (gq65.S1) := by
 have hh : HintOk Tryz.prog gq65.E (cB (cB (cR (cL (cR (cR (bodyOf Tryz.f65))))))) (.a) := HintOk.n1 (Q := True) (by kernel_rfl) trivial
 have h := loopS (kin := ([], [1, 23, 24, 25])) (kout := gq65.ko1) (sh := gq65.sh1) (F := gq65.G1) (ops_ok (hE.gv _)) (by kernel_rfl) hh (fun _ _ _ => rfl) (fun n R t K => by kernel_rfl) fuel
 exact HintOk.n1 (c := (cB (cR (cL (cR (cR (bodyOf Tryz.f65))))))) (h := .s (gq65.S1)) (P := Tryz.prog) (E := gq65.E) (by kernel_rfl) h
theorem gq65.hok (hE : EOk Tryz.prog (gq65.E)) : HintOk Tryz.prog gq65.E (bodyOf Tryz.f65) (.n (.a) (.n (.a) (.n (.n (.a) (.b (.s (gq65.S1)))) (.a)))) := HintOk.n1 (Q := (True) ∧ ((True) ∧ (((True) ∧ (SumOk Tryz.prog gq65.E (cB (cR (cL (cR (cR (bodyOf Tryz.f65)))))) (gq65.S1))) ∧ (True)))) (by kernel_rfl) ⟨trivial, ⟨trivial, ⟨⟨trivial, (gq65.ok1 hE)⟩, trivial⟩⟩⟩
theorem gq65.hE : EOk Tryz.prog (gq65.E) := EOk.of ttOk (⟨gq67.fok, ⟨gq113.fok, ⟨gq114.fok, trivial⟩⟩⟩)
theorem gq65.fok : FOk Tryz.prog 65 gq65.fi :=
 fokS (E := gq65.E) (wy := ⟨[[none]], [[]], []⟩) (h := (fun gs => .n (.a) (.n (.a) (.n (.n (.a) (.b (.s (gq65.S1)))) (.a))))) (G := fun t g => gq65.F (fun y0 => g y0) t.1.1 t.1.2.1) (by kernel_rfl) gq65.hE Tryz.func65 (by kernel_rfl) rfl (Nat.le_refl _) (fun t => HintOk.n1 (by kernel_rfl) (gq65.hok gq65.hE)) (fun t g => gq65.F_nat g (fun y0 => some y0) _ _) (fun t => by kernel_rfl)
def gq127.l1 {R : Type} (cmp : (((ByteArray × ByteArray × Int × Unit) × ByteArray × Unit) → Option (Int × Unit))) (kke0 : List (El kFile) → ByteArray → Int → Int → Option R) : Nat → List (El kFile) → ByteArray → Int → Int → Int → Option R
 | 0, _, _, _, _, _ => none
 | n + 1, x, target, n_, i, j =>
  cond (decide (i < j)) (
   grd (gSh (1 : Int)) <|
   grd (gIx (IntKind.wrap .i64 (iShr .u64 (IntKind.wrap .u64 (IntKind.wrap .i64 (i + j))) (1 : Int))) (List.length x)) <|
   (cmp (((rdE kFile x (Int.toNat (IntKind.wrap .i64 (iShr .u64 (IntKind.wrap .u64 (IntKind.wrap .i64 (i + j))) (1 : Int))))).1, (rdE kFile x (Int.toNat (IntKind.wrap .i64 (iShr .u64 (IntKind.wrap .u64 (IntKind.wrap .i64 (i + j))) (1 : Int))))).2.1, (rdE kFile x (Int.toNat (IntKind.wrap .i64 (iShr .u64 (IntKind.wrap .u64 (IntKind.wrap .i64 (i + j))) (1 : Int))))).2.2, ()), target, ())).bind fun r =>
   cond (decide (r.1 < (0 : Int))) (
    gq127.l1 cmp kke0 n x target n_ (IntKind.wrap .i64 ((IntKind.wrap .i64 (iShr .u64 (IntKind.wrap .u64 (IntKind.wrap .i64 (i + j))) (1 : Int))) + (1 : Int))) j) (
    gq127.l1 cmp kke0 n x target n_ i (IntKind.wrap .i64 (iShr .u64 (IntKind.wrap .u64 (IntKind.wrap .i64 (i + j))) (1 : Int))))) (kke0 x target n_ i)
theorem gq127.l1_nat {R S : Type} (g : R → Option S) (cmp : (((ByteArray × ByteArray × Int × Unit) × ByteArray × Unit) → Option (Int × Unit))) (kke0 : List (El kFile) → ByteArray → Int → Int → Option R) : ∀ n x target n_ i j, gq127.l1 cmp (fun y0 y1 y2 y3 => (kke0 y0 y1 y2 y3).bind g) n x target n_ i j = (gq127.l1 cmp kke0 n x target n_ i j).bind g := by
 intro n
 induction n with
 | zero => intros; rfl
 | succ n ih => intros; simp only [gq127.l1, grd_bind, cnd_bind, bnd_bind, non_bind, ih]
def gq127.F {R : Type} (kk : Int → Bool → Option R) (x : List (El kFile)) (target : ByteArray) (cmp : (((ByteArray × ByteArray × Int × Unit) × ByteArray × Unit) → Option (Int × Unit))) : Option R :=
 gq127.l1 cmp (fun x1 target1 n_ i =>
  cond (decide (i < n_)) (
   grd (gIx i (List.length x1)) <|
   (cmp (((rdE kFile x1 (Int.toNat i)).1, (rdE kFile x1 (Int.toNat i)).2.1, (rdE kFile x1 (Int.toNat i)).2.2, ()), target1, ())).bind fun r =>
   kk i (r.1 == (0 : Int))) (kk i false)) fuel x target (List.length x : Int) (0 : Int) (List.length x : Int)
theorem gq127.F_nat {R S : Type} (g : R → Option S) (kk : Int → Bool → Option R) (x target cmp) : gq127.F (fun y0 y1 => (kk y0 y1).bind g) x target cmp = (gq127.F kk x target cmp).bind g := by
 simp only [gq127.F, grd_bind, cnd_bind, bnd_bind, non_bind, ← gq127.l1_nat]
def gq127 (x : List (El kFile)) (target : ByteArray) (cmp : (((ByteArray × ByteArray × Int × Unit) × ByteArray × Unit) → Option (Int × Unit))) : Option (Int × Bool) := gq127.F (fun y0 y1 => some (y0, y1)) x target cmp
def gq127.out : (Int × Bool) → CRes := fun a => ⟨encL SV.enc [.one (.int .i64), .one (.bool)] (a.1, a.2, ()), [encL SC.enc [] (), encL SC.enc [] (), encL SC.enc [] ()]⟩
def gq127.ps : List PS := [.val [some (kFile, false)], .val [none], .fn [.one (.int .i64)]]
def gq127.sA : List SA := [.v (.one (.slv [] kFile)), .v (.one (.str)), .fn [.agg [.str, .str, .int .i64], .one (.str)] [.one (.int .i64)]]
def gq127.fi : FI := FIs gq127.sA (Int × Bool) (fun t => gq127 t.1 t.2.1 t.2.2.1) gq127.out gq127.ps
def gq127.E : Env := ⟨tt, lkF [], 49, 0, [], []⟩
def gq127.sh1 : SK := ⟨[.v (.one (.slv [1] kFile)), .v (.one (.str)), .v (.one (.fv 0)), .v (.one (.int .i64)), .v (.one (.int .i64)), .v (.one (.int .i64))], []⟩
def gq127.sh1e0 : SK := ⟨[.v (.one (.slv [1] kFile)), .v (.one (.str)), .v (.one (.fv 0)), .v (.one (.int .i64)), .v (.one (.int .i64))], []⟩
def gq127.ko1 : Ex → List CastAt × List Nat
 | .nrm => ([], [])
 | .ret => ([], [])
 | .ext i => cond (Nat.beq i 0) ([], [0, 1, 2, 8, 9]) ([], [])
def gq127.G1 (cmp : (((ByteArray × ByteArray × Int × Unit) × ByteArray × Unit) → Option (Int × Unit))) (n : Nat) (R : Type) (t : gq127.sh1.T) (K : Ex → Kp → Option R) : Option R := gq127.l1 cmp (fun y0 y1 y2 y3 => K (.ext 0) (SK.enc gq127.sh1e0 ((y0, y1, (), y2, y3, ()), ()))) n t.1.1 t.1.2.1 t.1.2.2.2.1 t.1.2.2.2.2.1 t.1.2.2.2.2.2.1
def gq127.S1 (cmp : (((ByteArray × ByteArray × Int × Unit) × ByteArray × Unit) → Option (Int × Unit))) : Sum := ⟨([], [0, 1, 2, 8, 9, 10]), sumF gq127.sh1 (gq127.G1 cmp fuel), gq127.ko1⟩
theorem gq127.ok1 (cmp : (((ByteArray × ByteArray × Int × Unit) × ByteArray × Unit) → Option (Int × Unit))) (hE : EOk Tryz.prog (gq127.E)) : SumOk Tryz.prog { (gq127.E) with gv := [fnE [.agg [.str, .str, .int .i64], .one (.str)] [.one (.int .i64)] cmp] } (cB (cL (cR (cR (cR (bodyOf Tryz.f127)))))) (gq127.S1 cmp) := by
 have hh : HintOk Tryz.prog { (gq127.E) with gv := [fnE [.agg [.str, .str, .int .i64], .one (.str)] [.one (.int .i64)] cmp] } (cB (cB (cL (cR (cR (cR (bodyOf Tryz.f127))))))) (.a) := HintOk.n1 (Q := True) (by kernel_rfl) trivial
 have h := loopS (kin := ([], [0, 1, 2, 8, 9, 10])) (kout := gq127.ko1) (sh := gq127.sh1) (F := gq127.G1 cmp) (ops_ok (hE.gv _)) (by kernel_rfl) hh (fun _ _ _ => rfl) (fun n R t K => by kernel_rfl) fuel
 exact HintOk.n1 (c := (cB (cL (cR (cR (cR (bodyOf Tryz.f127))))))) (h := .s (gq127.S1 cmp)) (P := Tryz.prog) (E := { (gq127.E) with gv := [fnE [.agg [.str, .str, .int .i64], .one (.str)] [.one (.int .i64)] cmp] }) (by kernel_rfl) h
theorem gq127.hok (cmp : (((ByteArray × ByteArray × Int × Unit) × ByteArray × Unit) → Option (Int × Unit))) (hE : EOk Tryz.prog (gq127.E)) : HintOk Tryz.prog { (gq127.E) with gv := [fnE [.agg [.str, .str, .int .i64], .one (.str)] [.one (.int .i64)] cmp] } (bodyOf Tryz.f127) (.n (.a) (.n (.a) (.n (.a) (.n (.b (.s (gq127.S1 cmp))) (.a))))) := HintOk.n1 (Q := (True) ∧ ((True) ∧ ((True) ∧ ((SumOk Tryz.prog { (gq127.E) with gv := [fnE [.agg [.str, .str, .int .i64], .one (.str)] [.one (.int .i64)] cmp] } (cB (cL (cR (cR (cR (bodyOf Tryz.f127)))))) (gq127.S1 cmp)) ∧ (True))))) (by kernel_rfl) ⟨trivial, ⟨trivial, ⟨trivial, ⟨(gq127.ok1 cmp hE), trivial⟩⟩⟩⟩
theorem gq127.hE : EOk Tryz.prog (gq127.E) := EOk.of ttOk (trivial)
theorem gq127.fok : FOk Tryz.prog 127 gq127.fi :=
 fokS (E := gq127.E) (wy := ⟨[[none], [none]], [[], [], []], []⟩) (h := (fun gs => let cmp := fnP [.agg [.str, .str, .int .i64], .one (.str)] [.one (.int .i64)] (gN 0 gs); .n (.a) (.n (.a) (.n (.a) (.n (.b (.s (gq127.S1 cmp))) (.a)))))) (G := fun t g => gq127.F (fun y0 y1 => g (y0, y1)) t.1 t.2.1 t.2.2.1) (by kernel_rfl) gq127.hE Tryz.func127 (by kernel_rfl) rfl (Nat.le_refl _) (fun t => HintOk.n1 (by kernel_rfl) (gq127.hok t.2.2.1 gq127.hE)) (fun t g => gq127.F_nat g (fun y0 y1 => some (y0, y1)) _ _ _) (fun t => by kernel_rfl)
theorem cmp_ex : ∃ f : ByteArray → ByteArray → Int, f = (fun a b => Lib.compareBytes a.data.toList b.data.toList) := ⟨_, rfl⟩
noncomputable def cmpS : ByteArray → ByteArray → Int := Classical.choose cmp_ex
theorem cmpS_eq (a b : ByteArray) : cmpS a b = Lib.compareBytes a.data.toList b.data.toList := congrFun (congrFun (Classical.choose_spec cmp_ex) a) b
noncomputable def gq129.F {R : Type} (kk : Int → Option R) (a b : ByteArray) : Option R := kk (cmpS a b)
theorem gq129_ex : ∃ f : ByteArray → ByteArray → Option Int, f = fun a b => gq129.F (fun y0 => some y0) a b := ⟨_, rfl⟩
noncomputable def gq129 : ByteArray → ByteArray → Option Int := Classical.choose gq129_ex
theorem gq129_eq (a b : ByteArray) : gq129 a b = gq129.F (fun y0 => some y0) a b := congrFun (congrFun (Classical.choose_spec gq129_ex) a) b
def gq129.out : (Int) → CRes := fun a => ⟨encL SV.enc [.one (.int .i64)] (a, ()), [encL SC.enc [] (), encL SC.enc [] ()]⟩
def gq129.ps : List PS := [.val [none], .val [none]]
def gq129.sA : List SA := [.v (.one (.str)), .v (.one (.str))]
noncomputable def gq129.fi : FI := FIs gq129.sA (Int) (fun t => gq129 t.1 t.2.1) gq129.out gq129.ps
theorem gq129.fok : FOk Tryz.prog 129 gq129.fi := by
 refine fok_ext ⟨_, _, Tryz.func129, by kernel_rfl, rfl⟩ (by kernel_rfl) (fun a => [.int .i64 a]) (fun a => by kernel_rfl) (fun a => by kernel_rfl) (fun t a h w => ?_)
 obtain ⟨s, c, u⟩ := t
 have h' : some (cmpS s c) = some a := (gq129_eq s c).symm.trans h
 obtain rfl := Option.some.inj h'
 rw [cmpS_eq]
 refine (Any.strings_Compare Tryz.lays106 s c w).mono ?_
 rintro e w' ⟨rfl, rfl⟩
 exact ⟨rfl, RowKit.Below.refl _ _⟩
def gq128.F {R : Type} (kk : Int → Option R) (f_Name : ByteArray) (f_Data : ByteArray) (f_Sure : Int) (name : ByteArray) : Option R :=
 (gq129 f_Name name).bind fun r =>
 kk r
theorem gq128.F_nat {R S : Type} (g : R → Option S) (kk : Int → Option R) (f_Name f_Data f_Sure name) : gq128.F (fun y0 => (kk y0).bind g) f_Name f_Data f_Sure name = (gq128.F kk f_Name f_Data f_Sure name).bind g := by
 simp only [gq128.F, grd_bind, cnd_bind, bnd_bind, non_bind]
def gq128 (f_Name : ByteArray) (f_Data : ByteArray) (f_Sure : Int) (name : ByteArray) : Option Int := gq128.F (fun y0 => some y0) f_Name f_Data f_Sure name
def gq128.out : Int → CRes := fun a => ⟨encL SV.enc [.one (.int .i64)] (a, ()), [encL SC.enc [] (), encL SC.enc [] ()]⟩
def gq128.ps : List PS := [.val [none, none, none], .val [none]]
def gq128.sA : List SA := [.v (.agg [.str, .str, .int .i64]), .v (.one (.str))]
def gq128.fi : FI := FIs gq128.sA (Int) (fun t => gq128 t.1.1 t.1.2.1 t.1.2.2.1 t.2.1) gq128.out gq128.ps
def gq128.E : Env := ⟨tt, lkF [(129, gq129.fi)], 9, 0, [], []⟩
theorem gq128.hok (hE : EOk Tryz.prog (gq128.E)) : HintOk Tryz.prog gq128.E (bodyOf Tryz.f128) (.a) := HintOk.n1 (Q := True) (by kernel_rfl) trivial
theorem gq128.hE : EOk Tryz.prog (gq128.E) := EOk.of ttOk (⟨gq129.fok, trivial⟩)
theorem gq128.fok : FOk Tryz.prog 128 gq128.fi :=
 fokS (E := gq128.E) (wy := ⟨[[none]], [[], []], []⟩) (h := (fun gs => .a)) (G := fun t g => gq128.F (fun y0 => g y0) t.1.1 t.1.2.1 t.1.2.2.1 t.2.1) (by kernel_rfl) gq128.hE Tryz.func128 (by kernel_rfl) rfl (Nat.le_refl _) (fun t => HintOk.n1 (by kernel_rfl) (gq128.hok gq128.hE)) (fun t g => gq128.F_nat g (fun y0 => some y0) _ _ _ _) (fun t => by kernel_rfl)
def gq76.F {R : Type} (kk : Int → Bool → Option R) (d_Room : Int) (d_Files : List (El kFile)) (name : ByteArray) : Option R :=
 (gq127 d_Files name (fun t => (gq128 t.1.1 t.1.2.1 t.1.2.2.1 t.2.1).bind fun a => some (a, ()))).bind fun r =>
 kk r.1 r.2
theorem gq76.F_nat {R S : Type} (g : R → Option S) (kk : Int → Bool → Option R) (d_Room d_Files name) : gq76.F (fun y0 y1 => (kk y0 y1).bind g) d_Room d_Files name = (gq76.F kk d_Room d_Files name).bind g := by
 simp only [gq76.F, grd_bind, cnd_bind, bnd_bind, non_bind]
def gq76 (d_Room : Int) (d_Files : List (El kFile)) (name : ByteArray) : Option (Int × Bool) := gq76.F (fun y0 y1 => some (y0, y1)) d_Room d_Files name
def gq76.out : (Int × Bool) → CRes := fun a => ⟨encL SV.enc [.one (.int .i64), .one (.bool)] (a.1, a.2, ()), [encL SC.enc [] (), encL SC.enc [] ()]⟩
def gq76.ps : List PS := [.val [none, some (kFile, false)], .val [none]]
def gq76.sA : List SA := [.v (.agg [.int .i64, .slv [] kFile]), .v (.one (.str))]
def gq76.fi : FI := FIs gq76.sA (Int × Bool) (fun t => gq76 t.1.1 t.1.2.1 t.2.1) gq76.out gq76.ps
def gq76.E : Env := ⟨tt, lkF [(127, gq127.fi), (128, gq128.fi)], 12, 0, [], []⟩
theorem gq76.hok (hE : EOk Tryz.prog (gq76.E)) : HintOk Tryz.prog gq76.E (bodyOf Tryz.f76) (.a) := HintOk.n1 (Q := True) (by kernel_rfl) trivial
theorem gq76.hE : EOk Tryz.prog (gq76.E) := EOk.of ttOk (⟨gq127.fok, ⟨gq128.fok, trivial⟩⟩)
theorem gq76.fok : FOk Tryz.prog 76 gq76.fi :=
 fokS (E := gq76.E) (wy := ⟨[[none], [none]], [[], []], []⟩) (h := (fun gs => .a)) (G := fun t g => gq76.F (fun y0 y1 => g (y0, y1)) t.1.1 t.1.2.1 t.2.1) (by kernel_rfl) gq76.hE Tryz.func76 (by kernel_rfl) rfl (Nat.le_refl _) (fun t => HintOk.n1 (by kernel_rfl) (gq76.hok gq76.hE)) (fun t g => gq76.F_nat g (fun y0 y1 => some (y0, y1)) _ _ _) (fun t => by kernel_rfl)
def gq104.j1 {R : Type} (kkn : ByteArray → ByteArray → Int → Bool → Bool → Int → List (El kFile) → Option R) (name : ByteArray) (data : ByteArray) (k_ : Int) (found : Bool) (d : Int) (l : List (El kFile)) : Option R :=
 cond (!found) (
  cond ((List.length l : Int) == (8 : Int)) (kkn name data k_ found true d l) (
   (gq113 d l).bind fun r =>
   kkn name data k_ found (decide ((ByteArray.size data : Int) > (IntKind.wrap .i64 (d - r)))) d l)) (
  (gq113 d l).bind fun r1 =>
  kkn name data k_ found (decide ((ByteArray.size data : Int) > (IntKind.wrap .i64 (d - r1)))) d l)
theorem gq104.j1_nat {R S : Type} (g : R → Option S) (kkn : ByteArray → ByteArray → Int → Bool → Bool → Int → List (El kFile) → Option R) (name data k_ found d l) : gq104.j1 (fun y0 y1 y2 y3 y4 y5 y6 => (kkn y0 y1 y2 y3 y4 y5 y6).bind g) name data k_ found d l = (gq104.j1 kkn name data k_ found d l).bind g := by
 simp only [gq104.j1, grd_bind, cnd_bind, bnd_bind, non_bind]
def gq104.j2 {R : Type} (kkn : ByteArray → Int → Int → List (El kFile) → Option R) (kkr : Int → Int → List (El kFile) → Option R) (name : ByteArray) (data : ByteArray) (k_ : Int) (found : Bool) (d : Int) (l : List (El kFile)) : Option R :=
 (gq114 name).bind fun r =>
 cond (!r) (kkr (1 : Int) d l) (
  gq104.j1 (fun name1 data1 k_1 found1 b d1 l1 =>
   cond (b) (kkr (7 : Int) d1 l1) (
    cond (!found1) (
     (gq149 l1 k_1 [(name1, (ByteArray.empty, (0 : Int)))]).bind fun r1 =>
     kkn data1 k_1 d1 r1) (kkn data1 k_1 d1 l1))) name data k_ found d l)
theorem gq104.j2_nat {R S : Type} (g : R → Option S) (kkn : ByteArray → Int → Int → List (El kFile) → Option R) (kkr : Int → Int → List (El kFile) → Option R) (name data k_ found d l) : gq104.j2 (fun y0 y1 y2 y3 => (kkn y0 y1 y2 y3).bind g) (fun y0 y1 y2 => (kkr y0 y1 y2).bind g) name data k_ found d l = (gq104.j2 kkn kkr name data k_ found d l).bind g := by
 simp only [gq104.j2, grd_bind, cnd_bind, bnd_bind, non_bind, ← gq104.j1_nat]
def gq104.F {R : Type} (kk : Int → Int → List (El kFile) → Option R) (d_Room : Int) (d_Files : List (El kFile)) (name : ByteArray) (data : ByteArray) : Option R :=
 (gq76 d_Room d_Files name).bind fun r =>
 gq104.j2 (fun data1 k_ d l =>
  grd (gIx k_ (List.length l)) <|
  grd (gCat (rdE kFile l (Int.toNat k_)).2.1 data1) <|
  grd (gIx k_ (List.length l)) <|
  kk (0 : Int) d (setE kFile l (Int.toNat k_) ((rdE kFile l (Int.toNat k_)).1, ((rdE kFile l (Int.toNat k_)).2.1 ++ data1, (rdE kFile l (Int.toNat k_)).2.2)))) (fun i d1 l1 => kk i d1 l1) name data r.1 r.2 d_Room d_Files
theorem gq104.F_nat {R S : Type} (g : R → Option S) (kk : Int → Int → List (El kFile) → Option R) (d_Room d_Files name data) : gq104.F (fun y0 y1 y2 => (kk y0 y1 y2).bind g) d_Room d_Files name data = (gq104.F kk d_Room d_Files name data).bind g := by
 simp only [gq104.F, grd_bind, cnd_bind, bnd_bind, non_bind, ← gq104.j2_nat]
def gq104 (d_Room : Int) (d_Files : List (El kFile)) (name : ByteArray) (data : ByteArray) : Option (Int × Int × List (El kFile)) := gq104.F (fun y0 y1 y2 => some (y0, y1, y2)) d_Room d_Files name data
def gq104.out : (Int × Int × List (El kFile)) → CRes := fun a => ⟨encL SV.enc [.one (.int .i64)] (a.1, ()), [encL SC.enc [.int .i64, .own [] kFile true] (a.2.1, a.2.2, ()), encL SC.enc [] (), encL SC.enc [] ()]⟩
def gq104.ps : List PS := [.ptr [none, some (kFile, true)], .val [none], .val [none]]
def gq104.sA : List SA := [.ptr [.int .i64, .own [] kFile true], .v (.one (.str)), .v (.one (.str))]
def gq104.fi : FI := FIs gq104.sA (Int × Int × List (El kFile)) (fun t => gq104 t.1.1 t.1.2.1 t.2.1 t.2.2.1) gq104.out gq104.ps
def gq104.E : Env := ⟨tt, lkF [(76, gq76.fi), (113, gq113.fi), (114, gq114.fi), (149, gq149.fi)], 73, 1, [], []⟩
def gq104.sh1 : SK := ⟨[.v (.one (.bptr 0 0)), .v (.one (.str)), .v (.one (.str)), .v (.one (.int .i64)), .v (.one (.bool))], [.box [.int .i64, .slo 1], .arr kFile [] true]⟩
def gq104.sh1n : SK := ⟨[.v (.one (.bptr 0 0)), .v (.one (.str)), .v (.one (.str)), .v (.one (.int .i64)), .v (.one (.bool)), .v (.one (.bool))], [.box [.int .i64, .slo 1], .arr kFile [] true]⟩
def gq104.ko1 : Ex → List CastAt × List Nat
 | .nrm => ([], [0, 1, 2, 7, 8, 21])
 | .ret => ([], [])
 | .ext i => ([], [])
def gq104.G1 (R : Type) (t : gq104.sh1.T) (K : Ex → Kp → Option R) : Option R := gq104.j1 (fun y0 y1 y2 y3 y4 y5 y6 => K .nrm (SK.enc gq104.sh1n (((), y0, y1, y2, y3, y4, ()), ((y5, (), ()), y6, ())))) t.1.2.1 t.1.2.2.1 t.1.2.2.2.1 t.1.2.2.2.2.1 t.2.1.1 t.2.2.1
def gq104.S1 : Sum := ⟨([], [0, 1, 2, 7, 8]), sumF gq104.sh1 (gq104.G1), gq104.ko1⟩
theorem gq104.ok1 (hE : EOk Tryz.prog (gq104.E)) : SumOk Tryz.prog gq104.E (cL (cR (cR (cB (cL (cR (cR (bodyOf Tryz.f104)))))))) (gq104.S1) := by
 have hh : HintOk Tryz.prog gq104.E (cL (cR (cR (cB (cL (cR (cR (bodyOf Tryz.f104)))))))) (.a) := HintOk.n1 (Q := True) (by kernel_rfl) trivial
 exact sumS (kin := ([], [0, 1, 2, 7, 8])) (kout := gq104.ko1) (sh := gq104.sh1) (F := gq104.G1) (ops_ok (hE.gv _)) (by kernel_rfl) hh (fun R t K => by kernel_rfl)
def gq104.sh2 : SK := ⟨[.v (.one (.bptr 0 0)), .v (.one (.str)), .v (.one (.str)), .v (.one (.int .i64)), .v (.one (.bool))], [.box [.int .i64, .slo 1], .arr kFile [] true]⟩
def gq104.sh2n : SK := ⟨[.v (.one (.bptr 0 0)), .v (.one (.str)), .v (.one (.int .i64))], [.box [.int .i64, .slo 1], .arr kFile [] true]⟩
def gq104.sh2r : SK := ⟨[.v (.one (.bptr 0 0)), .v (.one (.int .i64))], [.box [.int .i64, .slo 1], .arr kFile [] true]⟩
def gq104.ko2 : Ex → List CastAt × List Nat
 | .nrm => ([], [0, 2, 7])
 | .ret => ([], [0, 6])
 | .ext i => ([], [])
def gq104.G2 (R : Type) (t : gq104.sh2.T) (K : Ex → Kp → Option R) : Option R := gq104.j2 (fun y0 y1 y2 y3 => K .nrm (SK.enc gq104.sh2n (((), y0, y1, ()), ((y2, (), ()), y3, ())))) (fun y0 y1 y2 => K .ret (SK.enc gq104.sh2r (((), y0, ()), ((y1, (), ()), y2, ())))) t.1.2.1 t.1.2.2.1 t.1.2.2.2.1 t.1.2.2.2.2.1 t.2.1.1 t.2.2.1
def gq104.S2 : Sum := ⟨([], [0, 1, 2, 7, 8]), sumF gq104.sh2 (gq104.G2), gq104.ko2⟩
theorem gq104.ok2 (hE : EOk Tryz.prog (gq104.E)) : SumOk Tryz.prog gq104.E (cL (cR (cR (bodyOf Tryz.f104)))) (gq104.S2) := by
 have hh : HintOk Tryz.prog gq104.E (cL (cR (cR (bodyOf Tryz.f104)))) (.b (.n (.a) (.n (.a) (.n (.s (gq104.S1)) (.a))))) := HintOk.n1 (Q := (True) ∧ ((True) ∧ ((SumOk Tryz.prog gq104.E (cL (cR (cR (cB (cL (cR (cR (bodyOf Tryz.f104)))))))) (gq104.S1)) ∧ (True)))) (by kernel_rfl) ⟨trivial, ⟨trivial, ⟨(gq104.ok1 hE), trivial⟩⟩⟩
 exact sumS (kin := ([], [0, 1, 2, 7, 8])) (kout := gq104.ko2) (sh := gq104.sh2) (F := gq104.G2) (ops_ok (hE.gv _)) (by kernel_rfl) hh (fun R t K => by kernel_rfl)
theorem gq104.hok (hE : EOk Tryz.prog (gq104.E)) : HintOk Tryz.prog gq104.E (bodyOf Tryz.f104) (.n (.a) (.n (.a) (.n (.s (gq104.S2)) (.a)))) := HintOk.n1 (Q := (True) ∧ ((True) ∧ ((SumOk Tryz.prog gq104.E (cL (cR (cR (bodyOf Tryz.f104)))) (gq104.S2)) ∧ (True)))) (by kernel_rfl) ⟨trivial, ⟨trivial, ⟨(gq104.ok2 hE), trivial⟩⟩⟩
theorem gq104.hE : EOk Tryz.prog (gq104.E) := EOk.of ttOk (⟨gq76.fok, ⟨gq113.fok, ⟨gq114.fok, ⟨gq149.fok, trivial⟩⟩⟩⟩)
theorem gq104.fok : FOk Tryz.prog 104 gq104.fi :=
 fokS (E := gq104.E) (wy := ⟨[[none]], [[none, some (kFile, true)], [], []], []⟩) (h := (fun gs => .n (.a) (.n (.a) (.n (.s (gq104.S2)) (.a))))) (G := fun t g => gq104.F (fun y0 y1 y2 => g (y0, y1, y2)) t.1.1 t.1.2.1 t.2.1 t.2.2.1) (by kernel_rfl) gq104.hE Tryz.func104 (by kernel_rfl) rfl (Nat.le_refl _) (fun t => HintOk.n1 (by kernel_rfl) (gq104.hok gq104.hE)) (fun t g => gq104.F_nat g (fun y0 y1 y2 => some (y0, y1, y2)) _ _ _ _) (fun t => by kernel_rfl)
def gq105.j1 {R : Type} (kkn : List Int → Nat → Int → Int → Int → Int → List (El kFile) → Option R) (keep : List Int) (i : Int) (f : Nat) (more : Int) (i1 : Int) (i2 : Int) (d : Int) (f1 : List (El kFile)) : Option R :=
 cond (decide (i < (List.length keep : Int))) (
  grd (gIx i (List.length keep)) <|
  kkn keep f (mx2 (0 : Int) (mn2 (rdE (.int .i64 : Kd) keep (Int.toNat i)) (IntKind.wrap .i64 ((ByteArray.size (rdE kFile f1 f).2.1 : Int) - (rdE kFile f1 f).2.2)))) i1 i2 d f1) (kkn keep f more i1 i2 d f1)
theorem gq105.j1_nat {R S : Type} (g : R → Option S) (kkn : List Int → Nat → Int → Int → Int → Int → List (El kFile) → Option R) (keep i f more i1 i2 d f1) : gq105.j1 (fun y0 y1 y2 y3 y4 y5 y6 => (kkn y0 y1 y2 y3 y4 y5 y6).bind g) keep i f more i1 i2 d f1 = (gq105.j1 kkn keep i f more i1 i2 d f1).bind g := by
 simp only [gq105.j1, grd_bind, cnd_bind, bnd_bind, non_bind]
def gq105.l2 {R : Type} (kke0 : Int → List (El kFile) → Option R) : Nat → List Int → Int → Int → Int → List (El kFile) → Option R
 | 0, _, _, _, _, _ => none
 | n + 1, keep, i, i1, d, l =>
  cond (decide (i1 < i)) (
   grd (gIx i1 (List.length l)) <|
   gq105.j1 (fun keep1 f more i2 i3 d1 f1 =>
    grd (gSl (0 : Int) (IntKind.wrap .i64 ((rdE kFile f1 f).2.2 + more)) (ByteArray.size (rdE kFile f1 f).2.1)) <|
    gq105.l2 kke0 n keep1 i2 (IntKind.wrap .i64 (i3 + (1 : Int))) d1 (setE kFile (setE kFile f1 f ((rdE kFile f1 f).1, (cut (rdE kFile f1 f).2.1 (0 : Int) (IntKind.wrap .i64 ((rdE kFile f1 f).2.2 + more)), (rdE kFile f1 f).2.2))) f ((rdE kFile (setE kFile f1 f ((rdE kFile f1 f).1, (cut (rdE kFile f1 f).2.1 (0 : Int) (IntKind.wrap .i64 ((rdE kFile f1 f).2.2 + more)), (rdE kFile f1 f).2.2))) f).1, ((rdE kFile (setE kFile f1 f ((rdE kFile f1 f).1, (cut (rdE kFile f1 f).2.1 (0 : Int) (IntKind.wrap .i64 ((rdE kFile f1 f).2.2 + more)), (rdE kFile f1 f).2.2))) f).2.1, (ByteArray.size (rdE kFile (setE kFile f1 f ((rdE kFile f1 f).1, (cut (rdE kFile f1 f).2.1 (0 : Int) (IntKind.wrap .i64 ((rdE kFile f1 f).2.2 + more)), (rdE kFile f1 f).2.2))) f).2.1 : Int))))) keep i1 (Int.toNat i1) (0 : Int) i i1 d l) (kke0 d l)
theorem gq105.l2_nat {R S : Type} (g : R → Option S) (kke0 : Int → List (El kFile) → Option R) : ∀ n keep i i1 d l, gq105.l2 (fun y0 y1 => (kke0 y0 y1).bind g) n keep i i1 d l = (gq105.l2 kke0 n keep i i1 d l).bind g := by
 intro n
 induction n with
 | zero => intros; rfl
 | succ n ih => intros; simp only [gq105.l2, grd_bind, cnd_bind, bnd_bind, non_bind, ← gq105.j1_nat, ih]
def gq105.F {R : Type} (kk : Int → List (El kFile) → Option R) (d_Room : Int) (d_Files : List (El kFile)) (keep : List Int) : Option R :=
 gq105.l2 (fun d l => kk d l) fuel keep (List.length d_Files : Int) (0 : Int) d_Room d_Files
theorem gq105.F_nat {R S : Type} (g : R → Option S) (kk : Int → List (El kFile) → Option R) (d_Room d_Files keep) : gq105.F (fun y0 y1 => (kk y0 y1).bind g) d_Room d_Files keep = (gq105.F kk d_Room d_Files keep).bind g := by
 simp only [gq105.F, grd_bind, cnd_bind, bnd_bind, non_bind, ← gq105.l2_nat]
def gq105 (d_Room : Int) (d_Files : List (El kFile)) (keep : List Int) : Option (Int × List (El kFile)) := gq105.F (fun y0 y1 => some (y0, y1)) d_Room d_Files keep
def gq105.out : (Int × List (El kFile)) → CRes := fun a => ⟨encL SV.enc [] (), [encL SC.enc [.int .i64, .own [] kFile true] (a.1, a.2, ()), encL SC.enc [] ()]⟩
def gq105.ps : List PS := [.ptr [none, some (kFile, true)], .val [some ((.int .i64), false)]]
def gq105.sA : List SA := [.ptr [.int .i64, .own [] kFile true], .v (.one (.slv [] (.int .i64)))]
def gq105.fi : FI := FIs gq105.sA (Int × List (El kFile)) (fun t => gq105 t.1.1 t.1.2.1 t.2.1) gq105.out gq105.ps
def gq105.E : Env := ⟨tt, lkF [], 64, 1, [], []⟩
def gq105.sh1 : SK := ⟨[.v (.one (.bptr 0 0)), .v (.one (.slv [2] (.int .i64))), .v (.one (.int .i64)), .v (.one (.eptr 1 3 0)), .v (.one (.int .i64)), .v (.one (.int .i64)), .v (.one (.int .i64))], [.box [.int .i64, .slo 1], .arr kFile [] true]⟩
def gq105.sh1n : SK := ⟨[.v (.one (.bptr 0 0)), .v (.one (.slv [2] (.int .i64))), .v (.one (.eptr 1 3 0)), .v (.one (.int .i64)), .v (.one (.int .i64)), .v (.one (.int .i64))], [.box [.int .i64, .slo 1], .arr kFile [] true]⟩
def gq105.ko1 : Ex → List CastAt × List Nat
 | .nrm => ([], [0, 1, 5, 6, 11, 12])
 | .ret => ([], [])
 | .ext i => ([], [])
def gq105.G1 (R : Type) (t : gq105.sh1.T) (K : Ex → Kp → Option R) : Option R := gq105.j1 (fun y0 y1 y2 y3 y4 y5 y6 => K .nrm (SK.enc gq105.sh1n (((), y0, y1, y2, y3, y4, ()), ((y5, (), ()), y6, ())))) t.1.2.1 t.1.2.2.1 t.1.2.2.2.1 t.1.2.2.2.2.1 t.1.2.2.2.2.2.1 t.1.2.2.2.2.2.2.1 t.2.1.1 t.2.2.1
def gq105.S1 : Sum := ⟨([], [0, 1, 4, 5, 6, 11, 12]), sumF gq105.sh1 (gq105.G1), gq105.ko1⟩
theorem gq105.ok1 (hE : EOk Tryz.prog (gq105.E)) : SumOk Tryz.prog gq105.E (cL (cR (cR (cB (cL (cR (cR (cB (cB (cR (bodyOf Tryz.f105))))))))))) (gq105.S1) := by
 have hh : HintOk Tryz.prog gq105.E (cL (cR (cR (cB (cL (cR (cR (cB (cB (cR (bodyOf Tryz.f105))))))))))) (.a) := HintOk.n1 (Q := True) (by kernel_rfl) trivial
 exact sumS (kin := ([], [0, 1, 4, 5, 6, 11, 12])) (kout := gq105.ko1) (sh := gq105.sh1) (F := gq105.G1) (ops_ok (hE.gv _)) (by kernel_rfl) hh (fun R t K => by kernel_rfl)
def gq105.sh2 : SK := ⟨[.v (.one (.bptr 0 0)), .v (.one (.slv [2] (.int .i64))), .v (.one (.int .i64)), .v (.one (.int .i64))], [.box [.int .i64, .slo 1], .arr kFile [] true]⟩
def gq105.sh2e0 : SK := ⟨[.v (.one (.bptr 0 0))], [.box [.int .i64, .slo 1], .arr kFile [] true]⟩
def gq105.ko2 : Ex → List CastAt × List Nat
 | .nrm => ([], [])
 | .ret => ([], [])
 | .ext i => cond (Nat.beq i 0) ([], [0]) ([], [])
def gq105.G2 (n : Nat) (R : Type) (t : gq105.sh2.T) (K : Ex → Kp → Option R) : Option R := gq105.l2 (fun y0 y1 => K (.ext 0) (SK.enc gq105.sh2e0 (((), ()), ((y0, (), ()), y1, ())))) n t.1.2.1 t.1.2.2.1 t.1.2.2.2.1 t.2.1.1 t.2.2.1
def gq105.S2 : Sum := ⟨([], [0, 1, 11, 12]), sumF gq105.sh2 (gq105.G2 fuel), gq105.ko2⟩
theorem gq105.ok2 (hE : EOk Tryz.prog (gq105.E)) : SumOk Tryz.prog gq105.E (cB (cR (bodyOf Tryz.f105))) (gq105.S2) := by
 have hh : HintOk Tryz.prog gq105.E (cB (cB (cR (bodyOf Tryz.f105)))) (.n (.a) (.n (.a) (.n (.b (.n (.a) (.n (.a) (.n (.s (gq105.S1)) (.a))))) (.a)))) := HintOk.n1 (Q := (True) ∧ ((True) ∧ (((True) ∧ ((True) ∧ ((SumOk Tryz.prog gq105.E (cL (cR (cR (cB (cL (cR (cR (cB (cB (cR (bodyOf Tryz.f105))))))))))) (gq105.S1)) ∧ (True)))) ∧ (True)))) (by kernel_rfl) ⟨trivial, ⟨trivial, ⟨⟨trivial, ⟨trivial, ⟨(gq105.ok1 hE), trivial⟩⟩⟩, trivial⟩⟩⟩
 have h := loopS (kin := ([], [0, 1, 11, 12])) (kout := gq105.ko2) (sh := gq105.sh2) (F := gq105.G2) (ops_ok (hE.gv _)) (by kernel_rfl) hh (fun _ _ _ => rfl) (fun n R t K => by kernel_rfl) fuel
 exact HintOk.n1 (c := (cB (cR (bodyOf Tryz.f105)))) (h := .s (gq105.S2)) (P := Tryz.prog) (E := gq105.E) (by kernel_rfl) h
theorem gq105.hok (hE : EOk Tryz.prog (gq105.E)) : HintOk Tryz.prog gq105.E (bodyOf Tryz.f105) (.n (.a) (.b (.s (gq105.S2)))) := HintOk.n1 (Q := (True) ∧ (SumOk Tryz.prog gq105.E (cB (cR (bodyOf Tryz.f105))) (gq105.S2))) (by kernel_rfl) ⟨trivial, (gq105.ok2 hE)⟩
theorem gq105.hE : EOk Tryz.prog (gq105.E) := EOk.of ttOk (trivial)
theorem gq105.fok : FOk Tryz.prog 105 gq105.fi :=
 fokS (E := gq105.E) (wy := ⟨[], [[none, some (kFile, true)], []], []⟩) (h := (fun gs => .n (.a) (.b (.s (gq105.S2))))) (G := fun t g => gq105.F (fun y0 y1 => g (y0, y1)) t.1.1 t.1.2.1 t.2.1) (by kernel_rfl) gq105.hE Tryz.func105 (by kernel_rfl) rfl (Nat.le_refl _) (fun t => HintOk.n1 (by kernel_rfl) (gq105.hok gq105.hE)) (fun t g => gq105.F_nat g (fun y0 y1 => some (y0, y1)) _ _ _) (fun t => by kernel_rfl)
def gq106.F {R : Type} (kk : Int → Int → List (El kFile) → Option R) (d_Room : Int) (d_Files : List (El kFile)) (k_ : Int) (to_ : ByteArray) : Option R :=
 (gq114 to_).bind fun r =>
 cond (!r) (kk (1 : Int) d_Room d_Files) (
  grd (gIx k_ (List.length d_Files)) <|
  (gq107 d_Files k_ (IntKind.wrap .i64 (k_ + (1 : Int)))).bind fun r1 =>
  (gq76 d_Room r1 to_).bind fun r2 =>
  cond (r2.2) (
   grd (gIx r2.1 (List.length r1)) <|
   kk (0 : Int) d_Room (setE kFile r1 (Int.toNat r2.1) (to_, (rdE kFile d_Files (Int.toNat k_)).2))) (
   (gq149 r1 r2.1 [(to_, (rdE kFile d_Files (Int.toNat k_)).2)]).bind fun r3 =>
   kk (0 : Int) d_Room r3))
theorem gq106.F_nat {R S : Type} (g : R → Option S) (kk : Int → Int → List (El kFile) → Option R) (d_Room d_Files k_ to_) : gq106.F (fun y0 y1 y2 => (kk y0 y1 y2).bind g) d_Room d_Files k_ to_ = (gq106.F kk d_Room d_Files k_ to_).bind g := by
 simp only [gq106.F, grd_bind, cnd_bind, bnd_bind, non_bind]
def gq106 (d_Room : Int) (d_Files : List (El kFile)) (k_ : Int) (to_ : ByteArray) : Option (Int × Int × List (El kFile)) := gq106.F (fun y0 y1 y2 => some (y0, y1, y2)) d_Room d_Files k_ to_
def gq106.out : (Int × Int × List (El kFile)) → CRes := fun a => ⟨encL SV.enc [.one (.int .i64)] (a.1, ()), [encL SC.enc [.int .i64, .own [] kFile true] (a.2.1, a.2.2, ()), encL SC.enc [] (), encL SC.enc [] ()]⟩
def gq106.ps : List PS := [.ptr [none, some (kFile, true)], .val [none], .val [none]]
def gq106.sA : List SA := [.ptr [.int .i64, .own [] kFile true], .v (.one (.int .i64)), .v (.one (.str))]
def gq106.fi : FI := FIs gq106.sA (Int × Int × List (El kFile)) (fun t => gq106 t.1.1 t.1.2.1 t.2.1 t.2.2.1) gq106.out gq106.ps
def gq106.E : Env := ⟨tt, lkF [(76, gq76.fi), (107, gq107.fi), (114, gq114.fi), (149, gq149.fi)], 60, 1, [], []⟩
theorem gq106.hok (hE : EOk Tryz.prog (gq106.E)) : HintOk Tryz.prog gq106.E (bodyOf Tryz.f106) (.a) := HintOk.n1 (Q := True) (by kernel_rfl) trivial
theorem gq106.hE : EOk Tryz.prog (gq106.E) := EOk.of ttOk (⟨gq76.fok, ⟨gq107.fok, ⟨gq114.fok, ⟨gq149.fok, trivial⟩⟩⟩⟩)
theorem gq106.fok : FOk Tryz.prog 106 gq106.fi :=
 fokS (E := gq106.E) (wy := ⟨[[none]], [[none, some (kFile, true)], [], []], []⟩) (h := (fun gs => .a)) (G := fun t g => gq106.F (fun y0 y1 y2 => g (y0, y1, y2)) t.1.1 t.1.2.1 t.2.1 t.2.2.1) (by kernel_rfl) gq106.hE Tryz.func106 (by kernel_rfl) rfl (Nat.le_refl _) (fun t => HintOk.n1 (by kernel_rfl) (gq106.hok gq106.hE)) (fun t g => gq106.F_nat g (fun y0 y1 y2 => some (y0, y1, y2)) _ _ _ _) (fun t => by kernel_rfl)
def gq55.F {R : Type} (kk : Int → Int → List (El kFile) → Option R) (d_Room : Int) (d_Files : List (El kFile)) (a_Kind : Int) (a_N : Int) (a_Name : ByteArray) (a_To : ByteArray) (a_Data : ByteArray) (a_Keep : List Int) : Option R :=
 cond (a_Kind == (1 : Int)) (
  (gq104 d_Room d_Files a_Name a_Data).bind fun r =>
  kk r.1 r.2.1 r.2.2) (
  cond (a_Kind == (5 : Int)) (
   (gq105 d_Room d_Files a_Keep).bind fun r1 =>
   kk (0 : Int) r1.1 r1.2) (
   (gq67 a_Kind (2 : Int) (6 : Int)).bind fun r2 =>
   cond (!r2) (kk (3 : Int) d_Room d_Files) (
    (gq76 d_Room d_Files a_Name).bind fun r3 =>
    cond (!r3.2) (kk (5 : Int) d_Room d_Files) (
     grd (gIx r3.1 (List.length d_Files)) <|
     cond (a_Kind == (2 : Int)) (
      kk (0 : Int) d_Room (setE kFile d_Files (Int.toNat r3.1) ((rdE kFile d_Files (Int.toNat r3.1)).1, ((rdE kFile d_Files (Int.toNat r3.1)).2.1, (ByteArray.size (rdE kFile d_Files (Int.toNat r3.1)).2.1 : Int))))) (
      cond (a_Kind == (3 : Int)) (
       (gq106 d_Room d_Files r3.1 a_To).bind fun r4 =>
       kk r4.1 r4.2.1 r4.2.2) (
       cond (a_Kind == (4 : Int)) (
        (gq107 d_Files r3.1 (IntKind.wrap .i64 (r3.1 + (1 : Int)))).bind fun r5 =>
        kk (0 : Int) d_Room r5) (
        cond (a_Kind == (6 : Int)) (
         (gq67 a_N (0 : Int) (ByteArray.size (rdE kFile d_Files (Int.toNat r3.1)).2.1 : Int)).bind fun r6 =>
         cond (!r6) (kk (4 : Int) d_Room d_Files) (
          grd (gSl (0 : Int) a_N (ByteArray.size (rdE kFile d_Files (Int.toNat r3.1)).2.1)) <|
          kk (0 : Int) d_Room (setE kFile (setE kFile d_Files (Int.toNat r3.1) ((rdE kFile d_Files (Int.toNat r3.1)).1, (cut (rdE kFile d_Files (Int.toNat r3.1)).2.1 (0 : Int) a_N, (rdE kFile d_Files (Int.toNat r3.1)).2.2))) (Int.toNat r3.1) ((rdE kFile (setE kFile d_Files (Int.toNat r3.1) ((rdE kFile d_Files (Int.toNat r3.1)).1, (cut (rdE kFile d_Files (Int.toNat r3.1)).2.1 (0 : Int) a_N, (rdE kFile d_Files (Int.toNat r3.1)).2.2))) (Int.toNat r3.1)).1, ((rdE kFile (setE kFile d_Files (Int.toNat r3.1) ((rdE kFile d_Files (Int.toNat r3.1)).1, (cut (rdE kFile d_Files (Int.toNat r3.1)).2.1 (0 : Int) a_N, (rdE kFile d_Files (Int.toNat r3.1)).2.2))) (Int.toNat r3.1)).2.1, mn2 (rdE kFile d_Files (Int.toNat r3.1)).2.2 a_N))))) (kk (0 : Int) d_Room d_Files))))))))
theorem gq55.F_nat {R S : Type} (g : R → Option S) (kk : Int → Int → List (El kFile) → Option R) (d_Room d_Files a_Kind a_N a_Name a_To a_Data a_Keep) : gq55.F (fun y0 y1 y2 => (kk y0 y1 y2).bind g) d_Room d_Files a_Kind a_N a_Name a_To a_Data a_Keep = (gq55.F kk d_Room d_Files a_Kind a_N a_Name a_To a_Data a_Keep).bind g := by
 simp only [gq55.F, grd_bind, cnd_bind, bnd_bind, non_bind]
def gq55 (d_Room : Int) (d_Files : List (El kFile)) (a_Kind : Int) (a_N : Int) (a_Name : ByteArray) (a_To : ByteArray) (a_Data : ByteArray) (a_Keep : List Int) : Option (Int × Int × List (El kFile)) := gq55.F (fun y0 y1 y2 => some (y0, y1, y2)) d_Room d_Files a_Kind a_N a_Name a_To a_Data a_Keep
def gq55.out : (Int × Int × List (El kFile)) → CRes := fun a => ⟨encL SV.enc [.one (.int .i64)] (a.1, ()), [encL SC.enc [.int .i64, .own [] kFile true] (a.2.1, a.2.2, ()), encL SC.enc [] ()]⟩
def gq55.ps : List PS := [.ptr [none, some (kFile, true)], .val [none, none, none, none, none, some ((.int .i64), false)]]
def gq55.sA : List SA := [.ptr [.int .i64, .own [] kFile true], .v (.agg [.int .i64, .int .i64, .str, .str, .str, .slv [] (.int .i64)])]
def gq55.fi : FI := FIs gq55.sA (Int × Int × List (El kFile)) (fun t => gq55 t.1.1 t.1.2.1 t.2.1.1 t.2.1.2.1 t.2.1.2.2.1 t.2.1.2.2.2.1 t.2.1.2.2.2.2.1 t.2.1.2.2.2.2.2.1) gq55.out gq55.ps
def gq55.E : Env := ⟨tt, lkF [(67, gq67.fi), (76, gq76.fi), (104, gq104.fi), (105, gq105.fi), (106, gq106.fi), (107, gq107.fi)], 111, 1, [], []⟩
theorem gq55.hok (hE : EOk Tryz.prog (gq55.E)) : HintOk Tryz.prog gq55.E (bodyOf Tryz.f55) (.a) := HintOk.n1 (Q := True) (by kernel_rfl) trivial
theorem gq55.hE : EOk Tryz.prog (gq55.E) := EOk.of ttOk (⟨gq67.fok, ⟨gq76.fok, ⟨gq104.fok, ⟨gq105.fok, ⟨gq106.fok, ⟨gq107.fok, trivial⟩⟩⟩⟩⟩⟩)
theorem gq55.fok : FOk Tryz.prog 55 gq55.fi :=
 fokS (E := gq55.E) (wy := ⟨[[none]], [[none, some (kFile, true)], []], []⟩) (h := (fun gs => .a)) (G := fun t g => gq55.F (fun y0 y1 y2 => g (y0, y1, y2)) t.1.1 t.1.2.1 t.2.1.1 t.2.1.2.1 t.2.1.2.2.1 t.2.1.2.2.2.1 t.2.1.2.2.2.2.1 t.2.1.2.2.2.2.2.1) (by kernel_rfl) gq55.hE Tryz.func55 (by kernel_rfl) rfl (Nat.le_refl _) (fun t => HintOk.n1 (by kernel_rfl) (gq55.hok gq55.hE)) (fun t g => gq55.F_nat g (fun y0 y1 y2 => some (y0, y1, y2)) _ _ _ _ _ _ _ _) (fun t => by kernel_rfl)
theorem trim_ex : ∃ f : (ByteArray → ByteArray → ByteArray) × (ByteArray → ByteArray → Bool), f.1 = (fun s c => ⟨(Lib.trimS s.data.toList c.data.toList).toArray⟩) ∧ f.2 = (fun s c => decide (s.size ≤ 9223372036854775807) && (decide (c.size < 4294967281) && c.data.toList.all (fun b => decide (b.toNat < 128)))) := ⟨(_, _), rfl, rfl⟩
noncomputable def trimS : ByteArray → ByteArray → ByteArray := (Classical.choose trim_ex).1
noncomputable def gTrim : ByteArray → ByteArray → Bool := (Classical.choose trim_ex).2
theorem trimS_eq (s c : ByteArray) : trimS s c = ⟨(Lib.trimS s.data.toList c.data.toList).toArray⟩ := congrFun (congrFun (Classical.choose_spec trim_ex).1 s) c
theorem gTrim_eq (s c : ByteArray) : gTrim s c = (decide (s.size ≤ 9223372036854775807) && (decide (c.size < 4294967281) && c.data.toList.all (fun b => decide (b.toNat < 128)))) := congrFun (congrFun (Classical.choose_spec trim_ex).2 s) c
noncomputable def gq152.F {R : Type} (kk : ByteArray → Option R) (s : ByteArray) (c : ByteArray) : Option R := grd (gTrim s c) <| kk (trimS s c)
theorem gq152_ex : ∃ f : ByteArray → ByteArray → Option ByteArray, f = fun s n => gq152.F (fun y0 => some y0) s n := ⟨_, rfl⟩
noncomputable def gq152 : ByteArray → ByteArray → Option ByteArray := Classical.choose gq152_ex
theorem gq152_eq (s c : ByteArray) : gq152 s c = gq152.F (fun y0 => some y0) s c := congrFun (congrFun (Classical.choose_spec gq152_ex) s) c
def gq152.out : (ByteArray) → CRes := fun a => ⟨encL SV.enc [.one (.str)] (a, ()), [encL SC.enc [] (), encL SC.enc [] ()]⟩
def gq152.ps : List PS := [.val [none], .val [none]]
def gq152.sA : List SA := [.v (.one (.str)), .v (.one (.str))]
noncomputable def gq152.fi : FI := FIs gq152.sA (ByteArray) (fun t => gq152 t.1 t.2.1) gq152.out gq152.ps
theorem gq152.fok : FOk Tryz.prog 152 gq152.fi := by
 refine fok_ext ⟨_, _, Tryz.func152, by kernel_rfl, rfl⟩ (by kernel_rfl) (fun a => [.str a]) (fun a => by kernel_rfl) (fun a => by kernel_rfl) (fun t a h w => ?_)
 obtain ⟨s, c, u⟩ := t
 have h' : grd (gTrim s c) (some (trimS s c)) = some a := (gq152_eq s c).symm.trans h
 cases hg : gTrim s c with
 | false => rw [hg] at h'; cases h'
 | true =>
  rw [hg] at h'
  obtain rfl := Option.some.inj h'
  rw [gTrim_eq, Bool.and_eq_true, Bool.and_eq_true, decide_eq_true_iff, decide_eq_true_iff] at hg
  obtain ⟨h0, h1, h2⟩ := hg
  rw [trimS_eq]
  exact Any.strings_Trim_laid Tryz.lays160 (by kernel_rfl) s c w h0 h1 (ascii_of_all h2)
def gq115.F {R : Type} (kk : Int → Option R) (name : ByteArray) : Option R :=
 cond ((ByteArray.size name : Int) != (3 : Int)) (kk (0 : Int)) (
  grd (gIx (0 : Int) (ByteArray.size name)) <|
  cond ((byteAt name (0 : Int)) != (115 : Int)) (kk (0 : Int)) (
   grd (gSl (1 : Int) (ByteArray.size name : Int) (ByteArray.size name)) <|
   (gq152 (cut name (1 : Int) (ByteArray.size name : Int)) (⟨#[48, 49, 50, 51, 52, 53, 54, 55, 56, 57]⟩ : ByteArray)).bind fun r =>
   cond (!(sEq r ByteArray.empty)) (kk (0 : Int)) (
    grd (gIx (1 : Int) (ByteArray.size name)) <|
    grd (gIx (2 : Int) (ByteArray.size name)) <|
    kk (IntKind.wrap .i64 ((IntKind.wrap .i64 ((IntKind.wrap .i64 (IntKind.wrap .u8 ((byteAt name (1 : Int)) - (48 : Int)))) * (10 : Int))) + (IntKind.wrap .i64 (IntKind.wrap .u8 ((byteAt name (2 : Int)) - (48 : Int)))))))))
theorem gq115.F_nat {R S : Type} (g : R → Option S) (kk : Int → Option R) (name) : gq115.F (fun y0 => (kk y0).bind g) name = (gq115.F kk name).bind g := by
 simp only [gq115.F, grd_bind, cnd_bind, bnd_bind, non_bind]
def gq115 (name : ByteArray) : Option Int := gq115.F (fun y0 => some y0) name
def gq115.out : Int → CRes := fun a => ⟨encL SV.enc [.one (.int .i64)] (a, ()), [encL SC.enc [] ()]⟩
def gq115.ps : List PS := [.val [none]]
def gq115.sA : List SA := [.v (.one (.str))]
def gq115.fi : FI := FIs gq115.sA (Int) (fun t => gq115 t.1) gq115.out gq115.ps
def gq115.E : Env := ⟨tt, lkF [(152, gq152.fi)], 27, 0, [], []⟩
theorem gq115.hok (hE : EOk Tryz.prog (gq115.E)) : HintOk Tryz.prog gq115.E (bodyOf Tryz.f115) (.a) := HintOk.n1 (Q := True) (by kernel_rfl) trivial
theorem gq115.hE : EOk Tryz.prog (gq115.E) := EOk.of ttOk (⟨gq152.fok, trivial⟩)
theorem gq115.fok : FOk Tryz.prog 115 gq115.fi :=
 fokS (E := gq115.E) (wy := ⟨[[none]], [[]], []⟩) (h := (fun gs => .a)) (G := fun t g => gq115.F (fun y0 => g y0) t.1) (by kernel_rfl) gq115.hE Tryz.func115 (by kernel_rfl) rfl (Nat.le_refl _) (fun t => HintOk.n1 (by kernel_rfl) (gq115.hok gq115.hE)) (fun t g => gq115.F_nat g (fun y0 => some y0) _) (fun t => by kernel_rfl)
def gq103.l1 {R : Type} (kke0 : Int → Option R) : Nat → ByteArray → Int → Int → Int → Option R
 | 0, _, _, _, _ => none
 | n + 1, s, n_, i, i1 =>
  cond (decide (i1 < i)) (
   grd (gSh (8 : Int)) <|
   grd (gIx i1 (ByteArray.size s)) <|
   gq103.l1 kke0 n s (IntKind.wrap .i64 ((iShl .i64 n_ (8 : Int)) + (IntKind.wrap .i64 (byteAt s i1)))) i (IntKind.wrap .i64 (i1 + (1 : Int)))) (kke0 n_)
theorem gq103.l1_nat {R S : Type} (g : R → Option S) (kke0 : Int → Option R) : ∀ n s n_ i i1, gq103.l1 (fun y0 => (kke0 y0).bind g) n s n_ i i1 = (gq103.l1 kke0 n s n_ i i1).bind g := by
 intro n
 induction n with
 | zero => intros; rfl
 | succ n ih => intros; simp only [gq103.l1, grd_bind, cnd_bind, bnd_bind, non_bind, ih]
def gq103.F {R : Type} (kk : Int → Option R) (s : ByteArray) : Option R :=
 gq103.l1 (fun n_ => kk n_) fuel s (0 : Int) (ByteArray.size s : Int) (0 : Int)
theorem gq103.F_nat {R S : Type} (g : R → Option S) (kk : Int → Option R) (s) : gq103.F (fun y0 => (kk y0).bind g) s = (gq103.F kk s).bind g := by
 simp only [gq103.F, grd_bind, cnd_bind, bnd_bind, non_bind, ← gq103.l1_nat]
def gq103 (s : ByteArray) : Option Int := gq103.F (fun y0 => some y0) s
def gq103.out : Int → CRes := fun a => ⟨encL SV.enc [.one (.int .i64)] (a, ()), [encL SC.enc [] ()]⟩
def gq103.ps : List PS := [.val [none]]
def gq103.sA : List SA := [.v (.one (.str))]
def gq103.fi : FI := FIs gq103.sA (Int) (fun t => gq103 t.1) gq103.out gq103.ps
def gq103.E : Env := ⟨tt, lkF [], 19, 0, [], []⟩
def gq103.sh1 : SK := ⟨[.v (.one (.str)), .v (.one (.int .i64)), .v (.one (.int .i64)), .v (.one (.int .i64))], []⟩
def gq103.sh1e0 : SK := ⟨[.v (.one (.int .i64))], []⟩
def gq103.ko1 : Ex → List CastAt × List Nat
 | .nrm => ([], [])
 | .ret => ([], [])
 | .ext i => cond (Nat.beq i 0) ([], [3]) ([], [])
def gq103.G1 (n : Nat) (R : Type) (t : gq103.sh1.T) (K : Ex → Kp → Option R) : Option R := gq103.l1 (fun y0 => K (.ext 0) (SK.enc gq103.sh1e0 ((y0, ()), ()))) n t.1.1 t.1.2.1 t.1.2.2.1 t.1.2.2.2.1
def gq103.S1 : Sum := ⟨([], [0, 3, 6, 7]), sumF gq103.sh1 (gq103.G1 fuel), gq103.ko1⟩
theorem gq103.ok1 (hE : EOk Tryz.prog (gq103.E)) : SumOk Tryz.prog gq103.E (cB (cR (cL (cR (cR (bodyOf Tryz.f103)))))) (gq103.S1) := by
 have hh : HintOk Tryz.prog gq103.E (cB (cB (cR (cL (cR (cR (bodyOf Tryz.f103))))))) (.a) := HintOk.n1 (Q := True) (by kernel_rfl) trivial
 have h := loopS (kin := ([], [0, 3, 6, 7])) (kout := gq103.ko1) (sh := gq103.sh1) (F := gq103.G1) (ops_ok (hE.gv _)) (by kernel_rfl) hh (fun _ _ _ => rfl) (fun n R t K => by kernel_rfl) fuel
 exact HintOk.n1 (c := (cB (cR (cL (cR (cR (bodyOf Tryz.f103))))))) (h := .s (gq103.S1)) (P := Tryz.prog) (E := gq103.E) (by kernel_rfl) h
theorem gq103.hok (hE : EOk Tryz.prog (gq103.E)) : HintOk Tryz.prog gq103.E (bodyOf Tryz.f103) (.n (.a) (.n (.a) (.n (.n (.a) (.b (.s (gq103.S1)))) (.a)))) := HintOk.n1 (Q := (True) ∧ ((True) ∧ (((True) ∧ (SumOk Tryz.prog gq103.E (cB (cR (cL (cR (cR (bodyOf Tryz.f103)))))) (gq103.S1))) ∧ (True)))) (by kernel_rfl) ⟨trivial, ⟨trivial, ⟨⟨trivial, (gq103.ok1 hE)⟩, trivial⟩⟩⟩
theorem gq103.hE : EOk Tryz.prog (gq103.E) := EOk.of ttOk (trivial)
theorem gq103.fok : FOk Tryz.prog 103 gq103.fi :=
 fokS (E := gq103.E) (wy := ⟨[[none]], [[]], []⟩) (h := (fun gs => .n (.a) (.n (.a) (.n (.n (.a) (.b (.s (gq103.S1)))) (.a))))) (G := fun t g => gq103.F (fun y0 => g y0) t.1) (by kernel_rfl) gq103.hE Tryz.func103 (by kernel_rfl) rfl (Nat.le_refl _) (fun t => HintOk.n1 (by kernel_rfl) (gq103.hok gq103.hE)) (fun t g => gq103.F_nat g (fun y0 => some y0) _) (fun t => by kernel_rfl)
def gq137.l1 {R : Type} (kke0 : List Int → Option R) : Nat → Int → Int → List Int → Option R
 | 0, _, _, _ => none
 | n + 1, n_, i, out =>
  cond (decide (i ≥ (0 : Int))) (
   grd (gIx i (List.length out)) <|
   grd (gSh (8 : Int)) <|
   gq137.l1 kke0 n (iShr .i64 n_ (8 : Int)) (IntKind.wrap .i64 (i - (1 : Int))) (setE (.int .u8 : Kd) out (Int.toNat i) (IntKind.wrap .u8 n_))) (kke0 out)
theorem gq137.l1_nat {R S : Type} (g : R → Option S) (kke0 : List Int → Option R) : ∀ n n_ i out, gq137.l1 (fun y0 => (kke0 y0).bind g) n n_ i out = (gq137.l1 kke0 n n_ i out).bind g := by
 intro n
 induction n with
 | zero => intros; rfl
 | succ n ih => intros; simp only [gq137.l1, grd_bind, cnd_bind, bnd_bind, non_bind, ih]
def gq137.F {R : Type} (kk : ByteArray → Option R) (n_ : Int) (many : Int) : Option R :=
 grd (gMk many many 1) <|
 gq137.l1 (fun out => kk (strL out)) fuel n_ (IntKind.wrap .i64 (many - (1 : Int))) (List.replicate (Int.toNat many) (0 : Int))
theorem gq137.F_nat {R S : Type} (g : R → Option S) (kk : ByteArray → Option R) (n_ many) : gq137.F (fun y0 => (kk y0).bind g) n_ many = (gq137.F kk n_ many).bind g := by
 simp only [gq137.F, grd_bind, cnd_bind, bnd_bind, non_bind, ← gq137.l1_nat]
def gq137 (n_ : Int) (many : Int) : Option ByteArray := gq137.F (fun y0 => some y0) n_ many
def gq137.out : ByteArray → CRes := fun a => ⟨encL SV.enc [.one (.str)] (a, ()), [encL SC.enc [] (), encL SC.enc [] ()]⟩
def gq137.ps : List PS := [.val [none], .val [none]]
def gq137.sA : List SA := [.v (.one (.int .i64)), .v (.one (.int .i64))]
def gq137.fi : FI := FIs gq137.sA (ByteArray) (fun t => gq137 t.1 t.2.1) gq137.out gq137.ps
def gq137.E : Env := ⟨tt, lkF [], 24, 0, [], []⟩
def gq137.sh1 : SK := ⟨[.v (.one (.int .i64)), .v (.one (.slo 0)), .v (.one (.int .i64))], [.arr (.int .u8) [] true]⟩
def gq137.sh1e0 : SK := ⟨[.v (.one (.slo 0))], [.arr (.int .u8) [] true]⟩
def gq137.ko1 : Ex → List CastAt × List Nat
 | .nrm => ([], [])
 | .ret => ([], [])
 | .ext i => cond (Nat.beq i 0) ([], [5]) ([], [])
def gq137.G1 (n : Nat) (R : Type) (t : gq137.sh1.T) (K : Ex → Kp → Option R) : Option R := gq137.l1 (fun y0 => K (.ext 0) (SK.enc gq137.sh1e0 (((), ()), (y0, ())))) n t.1.1 t.1.2.2.1 t.2.1
def gq137.S1 : Sum := ⟨([], [0, 5, 6]), sumF gq137.sh1 (gq137.G1 fuel), gq137.ko1⟩
theorem gq137.ok1 (hE : EOk Tryz.prog (gq137.E)) : SumOk Tryz.prog gq137.E (cB (cR (cL (cR (cR (bodyOf Tryz.f137)))))) (gq137.S1) := by
 have hh : HintOk Tryz.prog gq137.E (cB (cB (cR (cL (cR (cR (bodyOf Tryz.f137))))))) (.a) := HintOk.n1 (Q := True) (by kernel_rfl) trivial
 have h := loopS (kin := ([], [0, 5, 6])) (kout := gq137.ko1) (sh := gq137.sh1) (F := gq137.G1) (ops_ok (hE.gv _)) (by kernel_rfl) hh (fun _ _ _ => rfl) (fun n R t K => by kernel_rfl) fuel
 exact HintOk.n1 (c := (cB (cR (cL (cR (cR (bodyOf Tryz.f137))))))) (h := .s (gq137.S1)) (P := Tryz.prog) (E := gq137.E) (by kernel_rfl) h
theorem gq137.hok (hE : EOk Tryz.prog (gq137.E)) : HintOk Tryz.prog gq137.E (bodyOf Tryz.f137) (.n (.a) (.n (.a) (.n (.n (.a) (.b (.s (gq137.S1)))) (.a)))) := HintOk.n1 (Q := (True) ∧ ((True) ∧ (((True) ∧ (SumOk Tryz.prog gq137.E (cB (cR (cL (cR (cR (bodyOf Tryz.f137)))))) (gq137.S1))) ∧ (True)))) (by kernel_rfl) ⟨trivial, ⟨trivial, ⟨⟨trivial, (gq137.ok1 hE)⟩, trivial⟩⟩⟩
theorem gq137.hE : EOk Tryz.prog (gq137.E) := EOk.of ttOk (trivial)
theorem gq137.fok : FOk Tryz.prog 137 gq137.fi :=
 fokS (E := gq137.E) (wy := ⟨[[none]], [[], []], []⟩) (h := (fun gs => .n (.a) (.n (.a) (.n (.n (.a) (.b (.s (gq137.S1)))) (.a))))) (G := fun t g => gq137.F (fun y0 => g y0) t.1 t.2.1) (by kernel_rfl) gq137.hE Tryz.func137 (by kernel_rfl) rfl (Nat.le_refl _) (fun t => HintOk.n1 (by kernel_rfl) (gq137.hok gq137.hE)) (fun t g => gq137.F_nat g (fun y0 => some y0) _ _) (fun t => by kernel_rfl)
def gq176.l1 {R : Type} (kke2 : ByteArray → Int → Int → Int → Option R) : Nat → ByteArray → Int → Int → Int → Int → Option R
 | 0, _, _, _, _, _ => none
 | n + 1, s, sum, i, i1, i2 =>
  cond (decide (i2 < (8 : Int))) (
   grd (gSh (1 : Int)) <|
   cond ((iAnd .u32 sum (1 : Int)) == (1 : Int)) (
    gq176.l1 kke2 n s (iXor .u32 (iShr .u32 sum (1 : Int)) (3988292384 : Int)) i i1 (IntKind.wrap .i64 (i2 + (1 : Int)))) (gq176.l1 kke2 n s (iShr .u32 sum (1 : Int)) i i1 (IntKind.wrap .i64 (i2 + (1 : Int))))) (kke2 s sum i i1)
theorem gq176.l1_nat {R S : Type} (g : R → Option S) (kke2 : ByteArray → Int → Int → Int → Option R) : ∀ n s sum i i1 i2, gq176.l1 (fun y0 y1 y2 y3 => (kke2 y0 y1 y2 y3).bind g) n s sum i i1 i2 = (gq176.l1 kke2 n s sum i i1 i2).bind g := by
 intro n
 induction n with
 | zero => intros; rfl
 | succ n ih => intros; simp only [gq176.l1, grd_bind, cnd_bind, bnd_bind, non_bind, ih]
def gq176.l2 {R : Type} (kke0 : Int → Option R) : Nat → ByteArray → Int → Int → Int → Option R
 | 0, _, _, _, _ => none
 | n + 1, s, sum, i, i1 =>
  cond (decide (i1 < i)) (
   grd (gIx i1 (ByteArray.size s)) <|
   gq176.l1 (fun s1 sum1 i2 i3 => gq176.l2 kke0 n s1 sum1 i2 (IntKind.wrap .i64 (i3 + (1 : Int)))) fuel s (iXor .u32 sum (IntKind.wrap .u32 (byteAt s i1))) i i1 (0 : Int)) (kke0 sum)
theorem gq176.l2_nat {R S : Type} (g : R → Option S) (kke0 : Int → Option R) : ∀ n s sum i i1, gq176.l2 (fun y0 => (kke0 y0).bind g) n s sum i i1 = (gq176.l2 kke0 n s sum i i1).bind g := by
 intro n
 induction n with
 | zero => intros; rfl
 | succ n ih => intros; simp only [gq176.l2, grd_bind, cnd_bind, bnd_bind, non_bind, ← gq176.l1_nat, ih]
def gq176.F {R : Type} (kk : Int → Option R) (s : ByteArray) : Option R :=
 gq176.l2 (fun sum => kk (IntKind.wrap .i64 (iXor .u32 (IntKind.max .u32) sum))) fuel s (4294967295 : Int) (ByteArray.size s : Int) (0 : Int)
theorem gq176.F_nat {R S : Type} (g : R → Option S) (kk : Int → Option R) (s) : gq176.F (fun y0 => (kk y0).bind g) s = (gq176.F kk s).bind g := by
 simp only [gq176.F, grd_bind, cnd_bind, bnd_bind, non_bind, ← gq176.l2_nat]
def gq176 (s : ByteArray) : Option Int := gq176.F (fun y0 => some y0) s
def gq176.out : Int → CRes := fun a => ⟨encL SV.enc [.one (.int .i64)] (a, ()), [encL SC.enc [] ()]⟩
def gq176.ps : List PS := [.val [none]]
def gq176.sA : List SA := [.v (.one (.str))]
def gq176.fi : FI := FIs gq176.sA (Int) (fun t => gq176 t.1) gq176.out gq176.ps
def gq176.E : Env := ⟨tt, lkF [], 32, 0, [], []⟩
def gq176.sh1 : SK := ⟨[.v (.one (.str)), .v (.one (.int .u32)), .v (.one (.int .i64)), .v (.one (.int .i64)), .v (.one (.int .i64))], []⟩
def gq176.sh1e2 : SK := ⟨[.v (.one (.str)), .v (.one (.int .u32)), .v (.one (.int .i64)), .v (.one (.int .i64))], []⟩
def gq176.ko1 : Ex → List CastAt × List Nat
 | .nrm => ([], [])
 | .ret => ([], [])
 | .ext i => cond (Nat.beq i 2) ([], [0, 3, 7, 8]) ([], [])
def gq176.G1 (n : Nat) (R : Type) (t : gq176.sh1.T) (K : Ex → Kp → Option R) : Option R := gq176.l1 (fun y0 y1 y2 y3 => K (.ext 2) (SK.enc gq176.sh1e2 ((y0, y1, y2, y3, ()), ()))) n t.1.1 t.1.2.1 t.1.2.2.1 t.1.2.2.2.1 t.1.2.2.2.2.1
def gq176.S1 : Sum := ⟨([], [0, 3, 7, 8, 17]), sumF gq176.sh1 (gq176.G1 fuel), gq176.ko1⟩
theorem gq176.ok1 (hE : EOk Tryz.prog (gq176.E)) : SumOk Tryz.prog gq176.E (cB (cR (cR (cR (cB (cL (cR (cR (cB (cB (cR (cL (cR (cR (bodyOf Tryz.f176))))))))))))))) (gq176.S1) := by
 have hh : HintOk Tryz.prog gq176.E (cB (cB (cR (cR (cR (cB (cL (cR (cR (cB (cB (cR (cL (cR (cR (bodyOf Tryz.f176)))))))))))))))) (.a) := HintOk.n1 (Q := True) (by kernel_rfl) trivial
 have h := loopS (kin := ([], [0, 3, 7, 8, 17])) (kout := gq176.ko1) (sh := gq176.sh1) (F := gq176.G1) (ops_ok (hE.gv _)) (by kernel_rfl) hh (fun _ _ _ => rfl) (fun n R t K => by kernel_rfl) fuel
 exact HintOk.n1 (c := (cB (cR (cR (cR (cB (cL (cR (cR (cB (cB (cR (cL (cR (cR (bodyOf Tryz.f176)))))))))))))))) (h := .s (gq176.S1)) (P := Tryz.prog) (E := gq176.E) (by kernel_rfl) h
def gq176.sh2 : SK := ⟨[.v (.one (.str)), .v (.one (.int .u32)), .v (.one (.int .i64)), .v (.one (.int .i64))], []⟩
def gq176.sh2e0 : SK := ⟨[.v (.one (.int .u32))], []⟩
def gq176.ko2 : Ex → List CastAt × List Nat
 | .nrm => ([], [])
 | .ret => ([], [])
 | .ext i => cond (Nat.beq i 0) ([], [3]) ([], [])
def gq176.G2 (n : Nat) (R : Type) (t : gq176.sh2.T) (K : Ex → Kp → Option R) : Option R := gq176.l2 (fun y0 => K (.ext 0) (SK.enc gq176.sh2e0 ((y0, ()), ()))) n t.1.1 t.1.2.1 t.1.2.2.1 t.1.2.2.2.1
def gq176.S2 : Sum := ⟨([], [0, 3, 7, 8]), sumF gq176.sh2 (gq176.G2 fuel), gq176.ko2⟩
theorem gq176.ok2 (hE : EOk Tryz.prog (gq176.E)) : SumOk Tryz.prog gq176.E (cB (cR (cL (cR (cR (bodyOf Tryz.f176)))))) (gq176.S2) := by
 have hh : HintOk Tryz.prog gq176.E (cB (cB (cR (cL (cR (cR (bodyOf Tryz.f176))))))) (.n (.a) (.n (.a) (.n (.b (.n (.a) (.n (.a) (.n (.a) (.b (.s (gq176.S1))))))) (.a)))) := HintOk.n1 (Q := (True) ∧ ((True) ∧ (((True) ∧ ((True) ∧ ((True) ∧ (SumOk Tryz.prog gq176.E (cB (cR (cR (cR (cB (cL (cR (cR (cB (cB (cR (cL (cR (cR (bodyOf Tryz.f176))))))))))))))) (gq176.S1))))) ∧ (True)))) (by kernel_rfl) ⟨trivial, ⟨trivial, ⟨⟨trivial, ⟨trivial, ⟨trivial, (gq176.ok1 hE)⟩⟩⟩, trivial⟩⟩⟩
 have h := loopS (kin := ([], [0, 3, 7, 8])) (kout := gq176.ko2) (sh := gq176.sh2) (F := gq176.G2) (ops_ok (hE.gv _)) (by kernel_rfl) hh (fun _ _ _ => rfl) (fun n R t K => by kernel_rfl) fuel
 exact HintOk.n1 (c := (cB (cR (cL (cR (cR (bodyOf Tryz.f176))))))) (h := .s (gq176.S2)) (P := Tryz.prog) (E := gq176.E) (by kernel_rfl) h
theorem gq176.hok (hE : EOk Tryz.prog (gq176.E)) : HintOk Tryz.prog gq176.E (bodyOf Tryz.f176) (.n (.a) (.n (.a) (.n (.n (.a) (.b (.s (gq176.S2)))) (.a)))) := HintOk.n1 (Q := (True) ∧ ((True) ∧ (((True) ∧ (SumOk Tryz.prog gq176.E (cB (cR (cL (cR (cR (bodyOf Tryz.f176)))))) (gq176.S2))) ∧ (True)))) (by kernel_rfl) ⟨trivial, ⟨trivial, ⟨⟨trivial, (gq176.ok2 hE)⟩, trivial⟩⟩⟩
theorem gq176.hE : EOk Tryz.prog (gq176.E) := EOk.of ttOk (trivial)
theorem gq176.fok : FOk Tryz.prog 176 gq176.fi :=
 fokS (E := gq176.E) (wy := ⟨[[none]], [[]], []⟩) (h := (fun gs => .n (.a) (.n (.a) (.n (.n (.a) (.b (.s (gq176.S2)))) (.a))))) (G := fun t g => gq176.F (fun y0 => g y0) t.1) (by kernel_rfl) gq176.hE Tryz.func176 (by kernel_rfl) rfl (Nat.le_refl _) (fun t => HintOk.n1 (by kernel_rfl) (gq176.hok gq176.hE)) (fun t g => gq176.F_nat g (fun y0 => some y0) _) (fun t => by kernel_rfl)
def gq155.F {R : Type} (kk : ByteArray → Option R) (data : ByteArray) : Option R :=
 (gq137 (ByteArray.size data : Int) (2 : Int)).bind fun r =>
 grd (gCat r data) <|
 (gq176 (r ++ data)).bind fun r1 =>
 (gq137 r1 (4 : Int)).bind fun r2 =>
 grd (gCat r r2) <|
 grd (gCat (r ++ r2) data) <|
 kk ((r ++ r2) ++ data)
theorem gq155.F_nat {R S : Type} (g : R → Option S) (kk : ByteArray → Option R) (data) : gq155.F (fun y0 => (kk y0).bind g) data = (gq155.F kk data).bind g := by
 simp only [gq155.F, grd_bind, cnd_bind, bnd_bind, non_bind]
def gq155 (data : ByteArray) : Option ByteArray := gq155.F (fun y0 => some y0) data
def gq155.out : ByteArray → CRes := fun a => ⟨encL SV.enc [.one (.str)] (a, ()), [encL SC.enc [] ()]⟩
def gq155.ps : List PS := [.val [none]]
def gq155.sA : List SA := [.v (.one (.str))]
def gq155.fi : FI := FIs gq155.sA (ByteArray) (fun t => gq155 t.1) gq155.out gq155.ps
def gq155.E : Env := ⟨tt, lkF [(137, gq137.fi), (176, gq176.fi)], 16, 0, [], []⟩
theorem gq155.hok (hE : EOk Tryz.prog (gq155.E)) : HintOk Tryz.prog gq155.E (bodyOf Tryz.f155) (.a) := HintOk.n1 (Q := True) (by kernel_rfl) trivial
theorem gq155.hE : EOk Tryz.prog (gq155.E) := EOk.of ttOk (⟨gq137.fok, ⟨gq176.fok, trivial⟩⟩)
theorem gq155.fok : FOk Tryz.prog 155 gq155.fi :=
 fokS (E := gq155.E) (wy := ⟨[[none]], [[]], []⟩) (h := (fun gs => .a)) (G := fun t g => gq155.F (fun y0 => g y0) t.1) (by kernel_rfl) gq155.hE Tryz.func155 (by kernel_rfl) rfl (Nat.le_refl _) (fun t => HintOk.n1 (by kernel_rfl) (gq155.hok gq155.hE)) (fun t g => gq155.F_nat g (fun y0 => some y0) _) (fun t => by kernel_rfl)
def gq148.F {R : Type} (kk : ByteArray → Int → Option R) (s : ByteArray) : Option R :=
 cond (decide ((ByteArray.size s : Int) < (6 : Int))) (kk ByteArray.empty (16 : Int)) (
  grd (gSl (0 : Int) (2 : Int) (ByteArray.size s)) <|
  (gq103 (cut s (0 : Int) (2 : Int))).bind fun r =>
  (gq67 r (1 : Int) (200 : Int)).bind fun r1 =>
  cond (!r1) (kk ByteArray.empty (8 : Int)) (
   cond (decide ((ByteArray.size s : Int) < (IntKind.wrap .i64 ((6 : Int) + r)))) (kk ByteArray.empty (16 : Int)) (
    grd (gSl (6 : Int) (IntKind.wrap .i64 ((6 : Int) + r)) (ByteArray.size s)) <|
    (gq155 (cut s (6 : Int) (IntKind.wrap .i64 ((6 : Int) + r)))).bind fun r2 =>
    grd (gSl (0 : Int) (IntKind.wrap .i64 ((6 : Int) + r)) (ByteArray.size s)) <|
    cond (!(sEq r2 (cut s (0 : Int) (IntKind.wrap .i64 ((6 : Int) + r))))) (kk ByteArray.empty (8 : Int)) (
     grd (gSl (6 : Int) (IntKind.wrap .i64 ((6 : Int) + r)) (ByteArray.size s)) <|
     kk (cut s (6 : Int) (IntKind.wrap .i64 ((6 : Int) + r))) (0 : Int)))))
theorem gq148.F_nat {R S : Type} (g : R → Option S) (kk : ByteArray → Int → Option R) (s) : gq148.F (fun y0 y1 => (kk y0 y1).bind g) s = (gq148.F kk s).bind g := by
 simp only [gq148.F, grd_bind, cnd_bind, bnd_bind, non_bind]
def gq148 (s : ByteArray) : Option (ByteArray × Int) := gq148.F (fun y0 y1 => some (y0, y1)) s
def gq148.out : (ByteArray × Int) → CRes := fun a => ⟨encL SV.enc [.one (.str), .one (.int .i64)] (a.1, a.2, ()), [encL SC.enc [] ()]⟩
def gq148.ps : List PS := [.val [none]]
def gq148.sA : List SA := [.v (.one (.str))]
def gq148.fi : FI := FIs gq148.sA (ByteArray × Int) (fun t => gq148 t.1) gq148.out gq148.ps
def gq148.E : Env := ⟨tt, lkF [(67, gq67.fi), (103, gq103.fi), (155, gq155.fi)], 36, 0, [], []⟩
theorem gq148.hok (hE : EOk Tryz.prog (gq148.E)) : HintOk Tryz.prog gq148.E (bodyOf Tryz.f148) (.a) := HintOk.n1 (Q := True) (by kernel_rfl) trivial
theorem gq148.hE : EOk Tryz.prog (gq148.E) := EOk.of ttOk (⟨gq67.fok, ⟨gq103.fok, ⟨gq155.fok, trivial⟩⟩⟩)
theorem gq148.fok : FOk Tryz.prog 148 gq148.fi :=
 fokS (E := gq148.E) (wy := ⟨[[none], [none]], [[]], []⟩) (h := (fun gs => .a)) (G := fun t g => gq148.F (fun y0 y1 => g (y0, y1)) t.1) (by kernel_rfl) gq148.hE Tryz.func148 (by kernel_rfl) rfl (Nat.le_refl _) (fun t => HintOk.n1 (by kernel_rfl) (gq148.hok gq148.hE)) (fun t g => gq148.F_nat g (fun y0 y1 => some (y0, y1)) _) (fun t => by kernel_rfl)
def gq102.l1 {R : Type} (kke0 : Int → List ByteArray → Option R) (kkr : Int → Int → List ByteArray → Option R) : Nat → ByteArray → Int → List ByteArray → Option R
 | 0, _, _, _ => none
 | n + 1, s, used, out =>
  cond (decide (used < (ByteArray.size s : Int))) (
   grd (gSl used (ByteArray.size s : Int) (ByteArray.size s)) <|
   (gq148 (cut s used (ByteArray.size s : Int))).bind fun r =>
   cond (r.2 != (0 : Int)) (kkr used r.2 out) (
    grd (gRm (((List.length out) + (List.length [r.1])) * 16)) <|
    gq102.l1 kke0 kkr n s (IntKind.wrap .i64 ((IntKind.wrap .i64 (used + (6 : Int))) + (ByteArray.size r.1 : Int))) (out ++ [r.1]))) (kke0 used out)
theorem gq102.l1_nat {R S : Type} (g : R → Option S) (kke0 : Int → List ByteArray → Option R) (kkr : Int → Int → List ByteArray → Option R) : ∀ n s used out, gq102.l1 (fun y0 y1 => (kke0 y0 y1).bind g) (fun y0 y1 y2 => (kkr y0 y1 y2).bind g) n s used out = (gq102.l1 kke0 kkr n s used out).bind g := by
 intro n
 induction n with
 | zero => intros; rfl
 | succ n ih => intros; simp only [gq102.l1, grd_bind, cnd_bind, bnd_bind, non_bind, ih]
def gq102.F {R : Type} (kk : List ByteArray → Int → Int → Option R) (s : ByteArray) : Option R :=
 gq102.l1 (fun used out => kk out used (0 : Int)) (fun i i1 l => kk l i i1) fuel s (0 : Int) ([] : List ByteArray)
theorem gq102.F_nat {R S : Type} (g : R → Option S) (kk : List ByteArray → Int → Int → Option R) (s) : gq102.F (fun y0 y1 y2 => (kk y0 y1 y2).bind g) s = (gq102.F kk s).bind g := by
 simp only [gq102.F, grd_bind, cnd_bind, bnd_bind, non_bind, ← gq102.l1_nat]
def gq102 (s : ByteArray) : Option (List ByteArray × Int × Int) := gq102.F (fun y0 y1 y2 => some (y0, y1, y2)) s
def gq102.out : (List ByteArray × Int × Int) → CRes := fun a => ⟨encL SV.enc [.one (.own [] .str true), .one (.int .i64), .one (.int .i64)] (a.1, a.2.1, a.2.2, ()), [encL SC.enc [] ()]⟩
def gq102.ps : List PS := [.val [none]]
def gq102.sA : List SA := [.v (.one (.str))]
def gq102.fi : FI := FIs gq102.sA (List ByteArray × Int × Int) (fun t => gq102 t.1) gq102.out gq102.ps
def gq102.E : Env := ⟨tt, lkF [(148, gq148.fi)], 37, 0, [], []⟩
def gq102.sh1 : SK := ⟨[.v (.one (.str)), .v (.one (.slo 0)), .v (.one (.int .i64))], [.arr .str [] true]⟩
def gq102.sh1e0 : SK := ⟨[.v (.one (.slo 0)), .v (.one (.int .i64))], [.arr .str [] true]⟩
def gq102.sh1r : SK := ⟨[.v (.one (.slo 0)), .v (.one (.int .i64)), .v (.one (.int .i64))], [.arr .str [] true]⟩
def gq102.ko1 : Ex → List CastAt × List Nat
 | .nrm => ([], [])
 | .ret => ([], [2, 3, 4])
 | .ext i => cond (Nat.beq i 0) ([], [5, 6]) ([], [])
def gq102.G1 (n : Nat) (R : Type) (t : gq102.sh1.T) (K : Ex → Kp → Option R) : Option R := gq102.l1 (fun y0 y1 => K (.ext 0) (SK.enc gq102.sh1e0 (((), y0, ()), (y1, ())))) (fun y0 y1 y2 => K .ret (SK.enc gq102.sh1r (((), y0, y1, ()), (y2, ())))) n t.1.1 t.1.2.2.1 t.2.1
def gq102.S1 : Sum := ⟨([], [0, 5, 6]), sumF gq102.sh1 (gq102.G1 fuel), gq102.ko1⟩
theorem gq102.ok1 (hE : EOk Tryz.prog (gq102.E)) : SumOk Tryz.prog gq102.E (cB (cL (cR (cR (bodyOf Tryz.f102))))) (gq102.S1) := by
 have hh : HintOk Tryz.prog gq102.E (cB (cB (cL (cR (cR (bodyOf Tryz.f102)))))) (.a) := HintOk.n1 (Q := True) (by kernel_rfl) trivial
 have h := loopS (kin := ([], [0, 5, 6])) (kout := gq102.ko1) (sh := gq102.sh1) (F := gq102.G1) (ops_ok (hE.gv _)) (by kernel_rfl) hh (fun _ _ _ => rfl) (fun n R t K => by kernel_rfl) fuel
 exact HintOk.n1 (c := (cB (cL (cR (cR (bodyOf Tryz.f102)))))) (h := .s (gq102.S1)) (P := Tryz.prog) (E := gq102.E) (by kernel_rfl) h
theorem gq102.hok (hE : EOk Tryz.prog (gq102.E)) : HintOk Tryz.prog gq102.E (bodyOf Tryz.f102) (.n (.a) (.n (.a) (.n (.b (.s (gq102.S1))) (.a)))) := HintOk.n1 (Q := (True) ∧ ((True) ∧ ((SumOk Tryz.prog gq102.E (cB (cL (cR (cR (bodyOf Tryz.f102))))) (gq102.S1)) ∧ (True)))) (by kernel_rfl) ⟨trivial, ⟨trivial, ⟨(gq102.ok1 hE), trivial⟩⟩⟩
theorem gq102.hE : EOk Tryz.prog (gq102.E) := EOk.of ttOk (⟨gq148.fok, trivial⟩)
theorem gq102.fok : FOk Tryz.prog 102 gq102.fi :=
 fokS (E := gq102.E) (wy := ⟨[[some (.str, true)], [none], [none]], [[]], []⟩) (h := (fun gs => .n (.a) (.n (.a) (.n (.b (.s (gq102.S1))) (.a))))) (G := fun t g => gq102.F (fun y0 y1 y2 => g (y0, y1, y2)) t.1) (by kernel_rfl) gq102.hE Tryz.func102 (by kernel_rfl) rfl (Nat.le_refl _) (fun t => HintOk.n1 (by kernel_rfl) (gq102.hok gq102.hE)) (fun t g => gq102.F_nat g (fun y0 y1 y2 => some (y0, y1, y2)) _) (fun t => by kernel_rfl)
def gq153.F {R : Type} (kk : Int → Option R) (w_First : Int) (w_Records : List ByteArray) (w_Names : List ByteArray) (w_Torn : Int) : Option R :=
 kk (IntKind.wrap .i64 (w_First + (List.length w_Records : Int)))
theorem gq153.F_nat {R S : Type} (g : R → Option S) (kk : Int → Option R) (w_First w_Records w_Names w_Torn) : gq153.F (fun y0 => (kk y0).bind g) w_First w_Records w_Names w_Torn = (gq153.F kk w_First w_Records w_Names w_Torn).bind g := by
 simp only [gq153.F, grd_bind, cnd_bind, bnd_bind, non_bind]
def gq153 (w_First : Int) (w_Records : List ByteArray) (w_Names : List ByteArray) (w_Torn : Int) : Option Int := gq153.F (fun y0 => some y0) w_First w_Records w_Names w_Torn
def gq153.out : Int → CRes := fun a => ⟨encL SV.enc [.one (.int .i64)] (a, ()), [encL SC.enc [] ()]⟩
def gq153.ps : List PS := [.val [none, some (.str, false), some (.str, false), none]]
def gq153.sA : List SA := [.v (.agg [.int .i64, .slv [] .str, .slv [] .str, .int .i64])]
def gq153.fi : FI := FIs gq153.sA (Int) (fun t => gq153 t.1.1 t.1.2.1 t.1.2.2.1 t.1.2.2.2.1) gq153.out gq153.ps
def gq153.E : Env := ⟨tt, lkF [], 9, 0, [], []⟩
theorem gq153.hok (hE : EOk Tryz.prog (gq153.E)) : HintOk Tryz.prog gq153.E (bodyOf Tryz.f153) (.a) := HintOk.n1 (Q := True) (by kernel_rfl) trivial
theorem gq153.hE : EOk Tryz.prog (gq153.E) := EOk.of ttOk (trivial)
theorem gq153.fok : FOk Tryz.prog 153 gq153.fi :=
 fokS (E := gq153.E) (wy := ⟨[[none]], [[]], []⟩) (h := (fun gs => .a)) (G := fun t g => gq153.F (fun y0 => g y0) t.1.1 t.1.2.1 t.1.2.2.1 t.1.2.2.2.1) (by kernel_rfl) gq153.hE Tryz.func153 (by kernel_rfl) rfl (Nat.le_refl _) (fun t => HintOk.n1 (by kernel_rfl) (gq153.hok gq153.hE)) (fun t g => gq153.F_nat g (fun y0 => some y0) _ _ _ _) (fun t => by kernel_rfl)
end
end Go.Proofs.YtaanadbpnmcbcaaGreatDoorA
