/-
  Functions of the program, and that the small machine's runs are these. No condition.
  Printed by wip/amp/main.py (a session's own program) out of Lean's print of the program; Lean's kernel checks it.
-/
import Derived.Test.YtaanadbpnmcbcaaGreatDoorXvF1
namespace Go.Proofs.YtaanadbpnmcbcaaGreatDoorA
open Go
noncomputable section
set_option linter.unusedVariables false
set_option linter.unusedSimpArgs false
set_option maxRecDepth 100000

/-! loop.example_g00220_impl.numberOf -/
def i_numberOf.l1 {R : Type} (kke0 : Int → Option R) : Nat → ByteArray → Int → Int → Int → Option R
  | 0, _, _, _, _ => none
  | n + 1, s, n_, i, i1 =>
    cond (decide (i1 < i)) (
      grd (gSh (8 : Int)) <|
      grd (gIx i1 (ByteArray.size s)) <|
      i_numberOf.l1 kke0 n s (IntKind.wrap .i64 ((iShl .i64 n_ (8 : Int)) + (IntKind.wrap .i64 (byteAt s i1)))) i (IntKind.wrap .i64 (i1 + (1 : Int)))) (kke0 n_)
theorem i_numberOf.l1_nat {R S : Type} (g : R → Option S) (kke0 : Int → Option R) : ∀ (n : Nat) (s : ByteArray) (n_ : Int) (i : Int) (i1 : Int), i_numberOf.l1 (fun y0 => (kke0 y0).bind g) n s n_ i i1 = (i_numberOf.l1 kke0 n s n_ i i1).bind g := by
  intro n
  induction n with
  | zero => intros; rfl
  | succ n ih => intros; simp only [i_numberOf.l1, grd_bind, cnd_bind, bnd_bind, non_bind, ih]
def i_numberOf.F {R : Type} (kk : Int → Option R) (s : ByteArray) : Option R :=
  i_numberOf.l1 (fun n_ => kk n_) fuel s (0 : Int) (ByteArray.size s : Int) (0 : Int)
theorem i_numberOf.F_nat {R S : Type} (g : R → Option S) (kk : Int → Option R) (s : ByteArray) : i_numberOf.F (fun y0 => (kk y0).bind g) s = (i_numberOf.F kk s).bind g := by
  simp only [i_numberOf.F, grd_bind, cnd_bind, bnd_bind, non_bind, ← i_numberOf.l1_nat]
def i_numberOf (s : ByteArray) : Option Int := i_numberOf.F (fun y0 => some y0) s
theorem i_numberOf_nat {S : Type} (g : Int → Option S) (s : ByteArray) : i_numberOf.F (fun y0 => g y0) s = (i_numberOf s).bind g := i_numberOf.F_nat g (fun y0 => some y0) s
def i_numberOf.out : Int → CRes := fun a => ⟨encL SV.enc [.one (.int .i64)] (a, ()), [encL SC.enc [] ()]⟩
def i_numberOf.ps : List PS := [.val [none]]
def i_numberOf.sA : List SA := [.v (.one (.str))]
def i_numberOf.fi : FI := FIs i_numberOf.sA (Int) (fun t => i_numberOf t.1) i_numberOf.out i_numberOf.ps
def i_numberOf.E : Env := ⟨tt, lkF [], 19, 0, [], []⟩
def i_numberOf.sh1 : SK := ⟨[.v (.one (.str)), .v (.one (.int .i64)), .v (.one (.int .i64)), .v (.one (.int .i64))], []⟩
def i_numberOf.sh1e0 : SK := ⟨[.v (.one (.int .i64))], []⟩
def i_numberOf.ko1 : Ex → List CastAt × List Nat
  | .nrm => ([], [])
  | .ret => ([], [])
  | .ext i => cond (Nat.beq i 0) ([], [3]) ([], [])
def i_numberOf.G1 (n : Nat) (R : Type) (t : i_numberOf.sh1.T) (K : Ex → Kp → Option R) : Option R := i_numberOf.l1 (fun y0 => K (.ext 0) (SK.enc i_numberOf.sh1e0 ((y0, ()), ()))) n t.1.1 t.1.2.1 t.1.2.2.1 t.1.2.2.2.1
def i_numberOf.S1 : Sum := ⟨([], [0, 3, 6, 7]), sumF i_numberOf.sh1 (i_numberOf.G1 fuel), i_numberOf.ko1⟩
theorem i_numberOf.ok1 (hE : EOk Tryz.prog (i_numberOf.E)) : SumOk Tryz.prog i_numberOf.E (cB (cR (cL (cR (cR (bodyOf Tryz.f103)))))) (i_numberOf.S1) := by
  have hh : HintOk Tryz.prog i_numberOf.E (cB (cB (cR (cL (cR (cR (bodyOf Tryz.f103))))))) (.a) := HintOk.n1 (Q := True) (by kernel_rfl) trivial
  have h := loopS (kin := ([], [0, 3, 6, 7])) (kout := i_numberOf.ko1) (sh := i_numberOf.sh1) (F := i_numberOf.G1) (ops_ok (hE.gv _)) (by kernel_rfl) hh (fun _ _ _ => rfl) (fun n R t K => by kernel_rfl) fuel
  exact HintOk.n1 (c := (cB (cR (cL (cR (cR (bodyOf Tryz.f103))))))) (h := .s (i_numberOf.S1)) (P := Tryz.prog) (E := i_numberOf.E) (by kernel_rfl) h
theorem i_numberOf.hok (hE : EOk Tryz.prog (i_numberOf.E)) : HintOk Tryz.prog i_numberOf.E (bodyOf Tryz.f103) (.n (.a) (.n (.a) (.n (.n (.a) (.b (.s (i_numberOf.S1)))) (.a)))) := HintOk.n1 (Q := (True) ∧ ((True) ∧ (((True) ∧ (SumOk Tryz.prog i_numberOf.E (cB (cR (cL (cR (cR (bodyOf Tryz.f103)))))) (i_numberOf.S1))) ∧ (True)))) (by kernel_rfl) ⟨trivial, ⟨trivial, ⟨⟨trivial, (i_numberOf.ok1 hE)⟩, trivial⟩⟩⟩
theorem i_numberOf.hE : EOk Tryz.prog (i_numberOf.E) := EOk.of ttOk (trivial)
theorem i_numberOf.fok : FOk Tryz.prog 103 i_numberOf.fi :=
  fokS (E := i_numberOf.E) (wy := ⟨[[none]], [[]], []⟩) (h := (fun gs => .n (.a) (.n (.a) (.n (.n (.a) (.b (.s (i_numberOf.S1)))) (.a))))) (G := fun t g => i_numberOf.F (fun y0 => g y0) t.1) (by kernel_rfl) i_numberOf.hE Tryz.func103 (by kernel_rfl) rfl (Nat.le_refl _) (fun t => HintOk.n1 (by kernel_rfl) (i_numberOf.hok i_numberOf.hE)) (fun t g => i_numberOf_nat g t.1) (fun t => by kernel_rfl)
/-! loop.example_g00220_impl.number -/
def i_number.l1 {R : Type} (kke0 : List Int → Option R) : Nat → Int → Int → List Int → Option R
  | 0, _, _, _ => none
  | n + 1, n_, i, out =>
    cond (decide (i ≥ (0 : Int))) (
      grd (gIx i (List.length out)) <|
      grd (gSh (8 : Int)) <|
      i_number.l1 kke0 n (iShr .i64 n_ (8 : Int)) (IntKind.wrap .i64 (i - (1 : Int))) (setE (.int .u8 : Kd) out (Int.toNat i) (IntKind.wrap .u8 n_))) (kke0 out)
theorem i_number.l1_nat {R S : Type} (g : R → Option S) (kke0 : List Int → Option R) : ∀ (n : Nat) (n_ : Int) (i : Int) (out : List Int), i_number.l1 (fun y0 => (kke0 y0).bind g) n n_ i out = (i_number.l1 kke0 n n_ i out).bind g := by
  intro n
  induction n with
  | zero => intros; rfl
  | succ n ih => intros; simp only [i_number.l1, grd_bind, cnd_bind, bnd_bind, non_bind, ih]
def i_number.F {R : Type} (kk : ByteArray → Option R) (n_ : Int) (many : Int) : Option R :=
  grd (gMk many many 1) <|
  i_number.l1 (fun out => kk (strL out)) fuel n_ (IntKind.wrap .i64 (many - (1 : Int))) (List.replicate (Int.toNat many) (0 : Int))
theorem i_number.F_nat {R S : Type} (g : R → Option S) (kk : ByteArray → Option R) (n_ : Int) (many : Int) : i_number.F (fun y0 => (kk y0).bind g) n_ many = (i_number.F kk n_ many).bind g := by
  simp only [i_number.F, grd_bind, cnd_bind, bnd_bind, non_bind, ← i_number.l1_nat]
def i_number (n_ : Int) (many : Int) : Option ByteArray := i_number.F (fun y0 => some y0) n_ many
theorem i_number_nat {S : Type} (g : ByteArray → Option S) (n_ : Int) (many : Int) : i_number.F (fun y0 => g y0) n_ many = (i_number n_ many).bind g := i_number.F_nat g (fun y0 => some y0) n_ many
def i_number.out : ByteArray → CRes := fun a => ⟨encL SV.enc [.one (.str)] (a, ()), [encL SC.enc [] (), encL SC.enc [] ()]⟩
def i_number.ps : List PS := [.val [none], .val [none]]
def i_number.sA : List SA := [.v (.one (.int .i64)), .v (.one (.int .i64))]
def i_number.fi : FI := FIs i_number.sA (ByteArray) (fun t => i_number t.1 t.2.1) i_number.out i_number.ps
def i_number.E : Env := ⟨tt, lkF [], 24, 0, [], []⟩
def i_number.sh1 : SK := ⟨[.v (.one (.int .i64)), .v (.one (.slo 0)), .v (.one (.int .i64))], [.arr (.int .u8) [] true]⟩
def i_number.sh1e0 : SK := ⟨[.v (.one (.slo 0))], [.arr (.int .u8) [] true]⟩
def i_number.ko1 : Ex → List CastAt × List Nat
  | .nrm => ([], [])
  | .ret => ([], [])
  | .ext i => cond (Nat.beq i 0) ([], [5]) ([], [])
def i_number.G1 (n : Nat) (R : Type) (t : i_number.sh1.T) (K : Ex → Kp → Option R) : Option R := i_number.l1 (fun y0 => K (.ext 0) (SK.enc i_number.sh1e0 (((), ()), (y0, ())))) n t.1.1 t.1.2.2.1 t.2.1
def i_number.S1 : Sum := ⟨([], [0, 5, 6]), sumF i_number.sh1 (i_number.G1 fuel), i_number.ko1⟩
theorem i_number.ok1 (hE : EOk Tryz.prog (i_number.E)) : SumOk Tryz.prog i_number.E (cB (cR (cL (cR (cR (bodyOf Tryz.f137)))))) (i_number.S1) := by
  have hh : HintOk Tryz.prog i_number.E (cB (cB (cR (cL (cR (cR (bodyOf Tryz.f137))))))) (.a) := HintOk.n1 (Q := True) (by kernel_rfl) trivial
  have h := loopS (kin := ([], [0, 5, 6])) (kout := i_number.ko1) (sh := i_number.sh1) (F := i_number.G1) (ops_ok (hE.gv _)) (by kernel_rfl) hh (fun _ _ _ => rfl) (fun n R t K => by kernel_rfl) fuel
  exact HintOk.n1 (c := (cB (cR (cL (cR (cR (bodyOf Tryz.f137))))))) (h := .s (i_number.S1)) (P := Tryz.prog) (E := i_number.E) (by kernel_rfl) h
theorem i_number.hok (hE : EOk Tryz.prog (i_number.E)) : HintOk Tryz.prog i_number.E (bodyOf Tryz.f137) (.n (.a) (.n (.a) (.n (.n (.a) (.b (.s (i_number.S1)))) (.a)))) := HintOk.n1 (Q := (True) ∧ ((True) ∧ (((True) ∧ (SumOk Tryz.prog i_number.E (cB (cR (cL (cR (cR (bodyOf Tryz.f137)))))) (i_number.S1))) ∧ (True)))) (by kernel_rfl) ⟨trivial, ⟨trivial, ⟨⟨trivial, (i_number.ok1 hE)⟩, trivial⟩⟩⟩
theorem i_number.hE : EOk Tryz.prog (i_number.E) := EOk.of ttOk (trivial)
theorem i_number.fok : FOk Tryz.prog 137 i_number.fi :=
  fokS (E := i_number.E) (wy := ⟨[[none]], [[], []], []⟩) (h := (fun gs => .n (.a) (.n (.a) (.n (.n (.a) (.b (.s (i_number.S1)))) (.a))))) (G := fun t g => i_number.F (fun y0 => g y0) t.1 t.2.1) (by kernel_rfl) i_number.hE Tryz.func137 (by kernel_rfl) rfl (Nat.le_refl _) (fun t => HintOk.n1 (by kernel_rfl) (i_number.hok i_number.hE)) (fun t g => i_number_nat g t.1 t.2.1) (fun t => by kernel_rfl)
/-! loop.example_g00220_impl.check32 -/
def i_check32.l1 {R : Type} (kke2 : ByteArray → Int → Int → Int → Option R) : Nat → ByteArray → Int → Int → Int → Int → Option R
  | 0, _, _, _, _, _ => none
  | n + 1, s, sum, i, i1, i2 =>
    cond (decide (i2 < (8 : Int))) (
      grd (gSh (1 : Int)) <|
      cond ((iAnd .u32 sum (1 : Int)) == (1 : Int)) (
        i_check32.l1 kke2 n s (iXor .u32 (iShr .u32 sum (1 : Int)) (3988292384 : Int)) i i1 (IntKind.wrap .i64 (i2 + (1 : Int)))) (i_check32.l1 kke2 n s (iShr .u32 sum (1 : Int)) i i1 (IntKind.wrap .i64 (i2 + (1 : Int))))) (kke2 s sum i i1)
theorem i_check32.l1_nat {R S : Type} (g : R → Option S) (kke2 : ByteArray → Int → Int → Int → Option R) : ∀ (n : Nat) (s : ByteArray) (sum : Int) (i : Int) (i1 : Int) (i2 : Int), i_check32.l1 (fun y0 y1 y2 y3 => (kke2 y0 y1 y2 y3).bind g) n s sum i i1 i2 = (i_check32.l1 kke2 n s sum i i1 i2).bind g := by
  intro n
  induction n with
  | zero => intros; rfl
  | succ n ih => intros; simp only [i_check32.l1, grd_bind, cnd_bind, bnd_bind, non_bind, ih]
def i_check32.l2 {R : Type} (kke0 : Int → Option R) : Nat → ByteArray → Int → Int → Int → Option R
  | 0, _, _, _, _ => none
  | n + 1, s, sum, i, i1 =>
    cond (decide (i1 < i)) (
      grd (gIx i1 (ByteArray.size s)) <|
      i_check32.l1 (fun s1 sum1 i2 i3 => i_check32.l2 kke0 n s1 sum1 i2 (IntKind.wrap .i64 (i3 + (1 : Int)))) fuel s (iXor .u32 sum (IntKind.wrap .u32 (byteAt s i1))) i i1 (0 : Int)) (kke0 sum)
theorem i_check32.l2_nat {R S : Type} (g : R → Option S) (kke0 : Int → Option R) : ∀ (n : Nat) (s : ByteArray) (sum : Int) (i : Int) (i1 : Int), i_check32.l2 (fun y0 => (kke0 y0).bind g) n s sum i i1 = (i_check32.l2 kke0 n s sum i i1).bind g := by
  intro n
  induction n with
  | zero => intros; rfl
  | succ n ih => intros; simp only [i_check32.l2, grd_bind, cnd_bind, bnd_bind, non_bind, ← i_check32.l1_nat, ih]
def i_check32.F {R : Type} (kk : Int → Option R) (s : ByteArray) : Option R :=
  i_check32.l2 (fun sum => kk (IntKind.wrap .i64 (iXor .u32 (IntKind.max .u32) sum))) fuel s (4294967295 : Int) (ByteArray.size s : Int) (0 : Int)
theorem i_check32.F_nat {R S : Type} (g : R → Option S) (kk : Int → Option R) (s : ByteArray) : i_check32.F (fun y0 => (kk y0).bind g) s = (i_check32.F kk s).bind g := by
  simp only [i_check32.F, grd_bind, cnd_bind, bnd_bind, non_bind, ← i_check32.l2_nat]
def i_check32 (s : ByteArray) : Option Int := i_check32.F (fun y0 => some y0) s
theorem i_check32_nat {S : Type} (g : Int → Option S) (s : ByteArray) : i_check32.F (fun y0 => g y0) s = (i_check32 s).bind g := i_check32.F_nat g (fun y0 => some y0) s
def i_check32.out : Int → CRes := fun a => ⟨encL SV.enc [.one (.int .i64)] (a, ()), [encL SC.enc [] ()]⟩
def i_check32.ps : List PS := [.val [none]]
def i_check32.sA : List SA := [.v (.one (.str))]
def i_check32.fi : FI := FIs i_check32.sA (Int) (fun t => i_check32 t.1) i_check32.out i_check32.ps
def i_check32.E : Env := ⟨tt, lkF [], 32, 0, [], []⟩
def i_check32.sh1 : SK := ⟨[.v (.one (.str)), .v (.one (.int .u32)), .v (.one (.int .i64)), .v (.one (.int .i64)), .v (.one (.int .i64))], []⟩
def i_check32.sh1e2 : SK := ⟨[.v (.one (.str)), .v (.one (.int .u32)), .v (.one (.int .i64)), .v (.one (.int .i64))], []⟩
def i_check32.ko1 : Ex → List CastAt × List Nat
  | .nrm => ([], [])
  | .ret => ([], [])
  | .ext i => cond (Nat.beq i 2) ([], [0, 3, 7, 8]) ([], [])
def i_check32.G1 (n : Nat) (R : Type) (t : i_check32.sh1.T) (K : Ex → Kp → Option R) : Option R := i_check32.l1 (fun y0 y1 y2 y3 => K (.ext 2) (SK.enc i_check32.sh1e2 ((y0, y1, y2, y3, ()), ()))) n t.1.1 t.1.2.1 t.1.2.2.1 t.1.2.2.2.1 t.1.2.2.2.2.1
def i_check32.S1 : Sum := ⟨([], [0, 3, 7, 8, 17]), sumF i_check32.sh1 (i_check32.G1 fuel), i_check32.ko1⟩
theorem i_check32.ok1 (hE : EOk Tryz.prog (i_check32.E)) : SumOk Tryz.prog i_check32.E (cB (cR (cR (cR (cB (cL (cR (cR (cB (cB (cR (cL (cR (cR (bodyOf Tryz.f176))))))))))))))) (i_check32.S1) := by
  have hh : HintOk Tryz.prog i_check32.E (cB (cB (cR (cR (cR (cB (cL (cR (cR (cB (cB (cR (cL (cR (cR (bodyOf Tryz.f176)))))))))))))))) (.a) := HintOk.n1 (Q := True) (by kernel_rfl) trivial
  have h := loopS (kin := ([], [0, 3, 7, 8, 17])) (kout := i_check32.ko1) (sh := i_check32.sh1) (F := i_check32.G1) (ops_ok (hE.gv _)) (by kernel_rfl) hh (fun _ _ _ => rfl) (fun n R t K => by kernel_rfl) fuel
  exact HintOk.n1 (c := (cB (cR (cR (cR (cB (cL (cR (cR (cB (cB (cR (cL (cR (cR (bodyOf Tryz.f176)))))))))))))))) (h := .s (i_check32.S1)) (P := Tryz.prog) (E := i_check32.E) (by kernel_rfl) h
def i_check32.sh2 : SK := ⟨[.v (.one (.str)), .v (.one (.int .u32)), .v (.one (.int .i64)), .v (.one (.int .i64))], []⟩
def i_check32.sh2e0 : SK := ⟨[.v (.one (.int .u32))], []⟩
def i_check32.ko2 : Ex → List CastAt × List Nat
  | .nrm => ([], [])
  | .ret => ([], [])
  | .ext i => cond (Nat.beq i 0) ([], [3]) ([], [])
def i_check32.G2 (n : Nat) (R : Type) (t : i_check32.sh2.T) (K : Ex → Kp → Option R) : Option R := i_check32.l2 (fun y0 => K (.ext 0) (SK.enc i_check32.sh2e0 ((y0, ()), ()))) n t.1.1 t.1.2.1 t.1.2.2.1 t.1.2.2.2.1
def i_check32.S2 : Sum := ⟨([], [0, 3, 7, 8]), sumF i_check32.sh2 (i_check32.G2 fuel), i_check32.ko2⟩
theorem i_check32.ok2 (hE : EOk Tryz.prog (i_check32.E)) : SumOk Tryz.prog i_check32.E (cB (cR (cL (cR (cR (bodyOf Tryz.f176)))))) (i_check32.S2) := by
  have hh : HintOk Tryz.prog i_check32.E (cB (cB (cR (cL (cR (cR (bodyOf Tryz.f176))))))) (.n (.a) (.n (.a) (.n (.b (.n (.a) (.n (.a) (.n (.a) (.b (.s (i_check32.S1))))))) (.a)))) := HintOk.n1 (Q := (True) ∧ ((True) ∧ (((True) ∧ ((True) ∧ ((True) ∧ (SumOk Tryz.prog i_check32.E (cB (cR (cR (cR (cB (cL (cR (cR (cB (cB (cR (cL (cR (cR (bodyOf Tryz.f176))))))))))))))) (i_check32.S1))))) ∧ (True)))) (by kernel_rfl) ⟨trivial, ⟨trivial, ⟨⟨trivial, ⟨trivial, ⟨trivial, (i_check32.ok1 hE)⟩⟩⟩, trivial⟩⟩⟩
  have h := loopS (kin := ([], [0, 3, 7, 8])) (kout := i_check32.ko2) (sh := i_check32.sh2) (F := i_check32.G2) (ops_ok (hE.gv _)) (by kernel_rfl) hh (fun _ _ _ => rfl) (fun n R t K => by kernel_rfl) fuel
  exact HintOk.n1 (c := (cB (cR (cL (cR (cR (bodyOf Tryz.f176))))))) (h := .s (i_check32.S2)) (P := Tryz.prog) (E := i_check32.E) (by kernel_rfl) h
theorem i_check32.hok (hE : EOk Tryz.prog (i_check32.E)) : HintOk Tryz.prog i_check32.E (bodyOf Tryz.f176) (.n (.a) (.n (.a) (.n (.n (.a) (.b (.s (i_check32.S2)))) (.a)))) := HintOk.n1 (Q := (True) ∧ ((True) ∧ (((True) ∧ (SumOk Tryz.prog i_check32.E (cB (cR (cL (cR (cR (bodyOf Tryz.f176)))))) (i_check32.S2))) ∧ (True)))) (by kernel_rfl) ⟨trivial, ⟨trivial, ⟨⟨trivial, (i_check32.ok2 hE)⟩, trivial⟩⟩⟩
theorem i_check32.hE : EOk Tryz.prog (i_check32.E) := EOk.of ttOk (trivial)
theorem i_check32.fok : FOk Tryz.prog 176 i_check32.fi :=
  fokS (E := i_check32.E) (wy := ⟨[[none]], [[]], []⟩) (h := (fun gs => .n (.a) (.n (.a) (.n (.n (.a) (.b (.s (i_check32.S2)))) (.a))))) (G := fun t g => i_check32.F (fun y0 => g y0) t.1) (by kernel_rfl) i_check32.hE Tryz.func176 (by kernel_rfl) rfl (Nat.le_refl _) (fun t => HintOk.n1 (by kernel_rfl) (i_check32.hok i_check32.hE)) (fun t g => i_check32_nat g t.1) (fun t => by kernel_rfl)
/-! loop.example_g00220_impl.frame -/
def i_frame.F {R : Type} (kk : ByteArray → Option R) (data : ByteArray) : Option R :=
  (i_number (ByteArray.size data : Int) (2 : Int)).bind fun r =>
  grd (gCat r data) <|
  (i_check32 (r ++ data)).bind fun r1 =>
  (i_number r1 (4 : Int)).bind fun r2 =>
  grd (gCat r r2) <|
  grd (gCat (r ++ r2) data) <|
  kk ((r ++ r2) ++ data)
theorem i_frame.F_nat {R S : Type} (g : R → Option S) (kk : ByteArray → Option R) (data : ByteArray) : i_frame.F (fun y0 => (kk y0).bind g) data = (i_frame.F kk data).bind g := by
  simp only [i_frame.F, grd_bind, cnd_bind, bnd_bind, non_bind]
def i_frame (data : ByteArray) : Option ByteArray := i_frame.F (fun y0 => some y0) data
theorem i_frame_nat {S : Type} (g : ByteArray → Option S) (data : ByteArray) : i_frame.F (fun y0 => g y0) data = (i_frame data).bind g := i_frame.F_nat g (fun y0 => some y0) data
def i_frame.out : ByteArray → CRes := fun a => ⟨encL SV.enc [.one (.str)] (a, ()), [encL SC.enc [] ()]⟩
def i_frame.ps : List PS := [.val [none]]
def i_frame.sA : List SA := [.v (.one (.str))]
def i_frame.fi : FI := FIs i_frame.sA (ByteArray) (fun t => i_frame t.1) i_frame.out i_frame.ps
def i_frame.E : Env := ⟨tt, lkF [(137, i_number.fi), (176, i_check32.fi)], 16, 0, [], []⟩
theorem i_frame.hok (hE : EOk Tryz.prog (i_frame.E)) : HintOk Tryz.prog i_frame.E (bodyOf Tryz.f155) (.a) := HintOk.n1 (Q := True) (by kernel_rfl) trivial
theorem i_frame.hE : EOk Tryz.prog (i_frame.E) := EOk.of ttOk (⟨i_number.fok, ⟨i_check32.fok, trivial⟩⟩)
theorem i_frame.fok : FOk Tryz.prog 155 i_frame.fi :=
  fokS (E := i_frame.E) (wy := ⟨[[none]], [[]], []⟩) (h := (fun gs => .a)) (G := fun t g => i_frame.F (fun y0 => g y0) t.1) (by kernel_rfl) i_frame.hE Tryz.func155 (by kernel_rfl) rfl (Nat.le_refl _) (fun t => HintOk.n1 (by kernel_rfl) (i_frame.hok i_frame.hE)) (fun t g => i_frame_nat g t.1) (fun t => by kernel_rfl)
/-! loop.example_g00220_impl.frameAt -/
def i_frameAt.F {R : Type} (kk : ByteArray → Int → Option R) (s : ByteArray) : Option R :=
  cond (decide ((ByteArray.size s : Int) < (6 : Int))) (kk ByteArray.empty (16 : Int)) (
    grd (gSl (0 : Int) (2 : Int) (ByteArray.size s)) <|
    (i_numberOf (cut s (0 : Int) (2 : Int))).bind fun r =>
    (i_within r (1 : Int) (200 : Int)).bind fun r1 =>
    cond (!r1) (kk ByteArray.empty (8 : Int)) (
      cond (decide ((ByteArray.size s : Int) < (IntKind.wrap .i64 ((6 : Int) + r)))) (kk ByteArray.empty (16 : Int)) (
        grd (gSl (6 : Int) (IntKind.wrap .i64 ((6 : Int) + r)) (ByteArray.size s)) <|
        (i_frame (cut s (6 : Int) (IntKind.wrap .i64 ((6 : Int) + r)))).bind fun r2 =>
        grd (gSl (0 : Int) (IntKind.wrap .i64 ((6 : Int) + r)) (ByteArray.size s)) <|
        cond (!(sEq r2 (cut s (0 : Int) (IntKind.wrap .i64 ((6 : Int) + r))))) (kk ByteArray.empty (8 : Int)) (
          grd (gSl (6 : Int) (IntKind.wrap .i64 ((6 : Int) + r)) (ByteArray.size s)) <|
          kk (cut s (6 : Int) (IntKind.wrap .i64 ((6 : Int) + r))) (0 : Int)))))
theorem i_frameAt.F_nat {R S : Type} (g : R → Option S) (kk : ByteArray → Int → Option R) (s : ByteArray) : i_frameAt.F (fun y0 y1 => (kk y0 y1).bind g) s = (i_frameAt.F kk s).bind g := by
  simp only [i_frameAt.F, grd_bind, cnd_bind, bnd_bind, non_bind]
def i_frameAt (s : ByteArray) : Option (ByteArray × Int) := i_frameAt.F (fun y0 y1 => some (y0, y1)) s
theorem i_frameAt_nat {S : Type} (g : (ByteArray × Int) → Option S) (s : ByteArray) : i_frameAt.F (fun y0 y1 => g (y0, y1)) s = (i_frameAt s).bind g := i_frameAt.F_nat g (fun y0 y1 => some (y0, y1)) s
def i_frameAt.out : (ByteArray × Int) → CRes := fun a => ⟨encL SV.enc [.one (.str), .one (.int .i64)] (a.1, a.2, ()), [encL SC.enc [] ()]⟩
def i_frameAt.ps : List PS := [.val [none]]
def i_frameAt.sA : List SA := [.v (.one (.str))]
def i_frameAt.fi : FI := FIs i_frameAt.sA (ByteArray × Int) (fun t => i_frameAt t.1) i_frameAt.out i_frameAt.ps
def i_frameAt.E : Env := ⟨tt, lkF [(67, i_within.fi), (103, i_numberOf.fi), (155, i_frame.fi)], 36, 0, [], []⟩
theorem i_frameAt.hok (hE : EOk Tryz.prog (i_frameAt.E)) : HintOk Tryz.prog i_frameAt.E (bodyOf Tryz.f148) (.a) := HintOk.n1 (Q := True) (by kernel_rfl) trivial
theorem i_frameAt.hE : EOk Tryz.prog (i_frameAt.E) := EOk.of ttOk (⟨i_within.fok, ⟨i_numberOf.fok, ⟨i_frame.fok, trivial⟩⟩⟩)
theorem i_frameAt.fok : FOk Tryz.prog 148 i_frameAt.fi :=
  fokS (E := i_frameAt.E) (wy := ⟨[[none], [none]], [[]], []⟩) (h := (fun gs => .a)) (G := fun t g => i_frameAt.F (fun y0 y1 => g (y0, y1)) t.1) (by kernel_rfl) i_frameAt.hE Tryz.func148 (by kernel_rfl) rfl (Nat.le_refl _) (fun t => HintOk.n1 (by kernel_rfl) (i_frameAt.hok i_frameAt.hE)) (fun t g => i_frameAt_nat g t.1) (fun t => by kernel_rfl)
/-! loop.example_g00220_impl.readFrames -/
def i_readFrames.l1 {R : Type} (kke0 : Int → List ByteArray → Option R) (kkr : Int → Int → List ByteArray → Option R) : Nat → ByteArray → Int → List ByteArray → Option R
  | 0, _, _, _ => none
  | n + 1, s, used, out =>
    cond (decide (used < (ByteArray.size s : Int))) (
      grd (gSl used (ByteArray.size s : Int) (ByteArray.size s)) <|
      (i_frameAt (cut s used (ByteArray.size s : Int))).bind fun r =>
      cond (r.2 != (0 : Int)) (kkr used r.2 out) (
        grd (gRm (((List.length out) + (List.length [r.1])) * 16)) <|
        i_readFrames.l1 kke0 kkr n s (IntKind.wrap .i64 ((IntKind.wrap .i64 (used + (6 : Int))) + (ByteArray.size r.1 : Int))) (out ++ [r.1]))) (kke0 used out)
theorem i_readFrames.l1_nat {R S : Type} (g : R → Option S) (kke0 : Int → List ByteArray → Option R) (kkr : Int → Int → List ByteArray → Option R) : ∀ (n : Nat) (s : ByteArray) (used : Int) (out : List ByteArray), i_readFrames.l1 (fun y0 y1 => (kke0 y0 y1).bind g) (fun y0 y1 y2 => (kkr y0 y1 y2).bind g) n s used out = (i_readFrames.l1 kke0 kkr n s used out).bind g := by
  intro n
  induction n with
  | zero => intros; rfl
  | succ n ih => intros; simp only [i_readFrames.l1, grd_bind, cnd_bind, bnd_bind, non_bind, ih]
def i_readFrames.F {R : Type} (kk : List ByteArray → Int → Int → Option R) (s : ByteArray) : Option R :=
  i_readFrames.l1 (fun used out => kk out used (0 : Int)) (fun i i1 l => kk l i i1) fuel s (0 : Int) ([] : List ByteArray)
theorem i_readFrames.F_nat {R S : Type} (g : R → Option S) (kk : List ByteArray → Int → Int → Option R) (s : ByteArray) : i_readFrames.F (fun y0 y1 y2 => (kk y0 y1 y2).bind g) s = (i_readFrames.F kk s).bind g := by
  simp only [i_readFrames.F, grd_bind, cnd_bind, bnd_bind, non_bind, ← i_readFrames.l1_nat]
def i_readFrames (s : ByteArray) : Option (List ByteArray × Int × Int) := i_readFrames.F (fun y0 y1 y2 => some (y0, y1, y2)) s
theorem i_readFrames_nat {S : Type} (g : (List ByteArray × Int × Int) → Option S) (s : ByteArray) : i_readFrames.F (fun y0 y1 y2 => g (y0, y1, y2)) s = (i_readFrames s).bind g := i_readFrames.F_nat g (fun y0 y1 y2 => some (y0, y1, y2)) s
def i_readFrames.out : (List ByteArray × Int × Int) → CRes := fun a => ⟨encL SV.enc [.one (.own [] .str true), .one (.int .i64), .one (.int .i64)] (a.1, a.2.1, a.2.2, ()), [encL SC.enc [] ()]⟩
def i_readFrames.ps : List PS := [.val [none]]
def i_readFrames.sA : List SA := [.v (.one (.str))]
def i_readFrames.fi : FI := FIs i_readFrames.sA (List ByteArray × Int × Int) (fun t => i_readFrames t.1) i_readFrames.out i_readFrames.ps
def i_readFrames.E : Env := ⟨tt, lkF [(148, i_frameAt.fi)], 37, 0, [], []⟩
def i_readFrames.sh1 : SK := ⟨[.v (.one (.str)), .v (.one (.slo 0)), .v (.one (.int .i64))], [.arr .str [] true]⟩
def i_readFrames.sh1e0 : SK := ⟨[.v (.one (.slo 0)), .v (.one (.int .i64))], [.arr .str [] true]⟩
def i_readFrames.sh1r : SK := ⟨[.v (.one (.slo 0)), .v (.one (.int .i64)), .v (.one (.int .i64))], [.arr .str [] true]⟩
def i_readFrames.ko1 : Ex → List CastAt × List Nat
  | .nrm => ([], [])
  | .ret => ([], [2, 3, 4])
  | .ext i => cond (Nat.beq i 0) ([], [5, 6]) ([], [])
def i_readFrames.G1 (n : Nat) (R : Type) (t : i_readFrames.sh1.T) (K : Ex → Kp → Option R) : Option R := i_readFrames.l1 (fun y0 y1 => K (.ext 0) (SK.enc i_readFrames.sh1e0 (((), y0, ()), (y1, ())))) (fun y0 y1 y2 => K .ret (SK.enc i_readFrames.sh1r (((), y0, y1, ()), (y2, ())))) n t.1.1 t.1.2.2.1 t.2.1
def i_readFrames.S1 : Sum := ⟨([], [0, 5, 6]), sumF i_readFrames.sh1 (i_readFrames.G1 fuel), i_readFrames.ko1⟩
theorem i_readFrames.ok1 (hE : EOk Tryz.prog (i_readFrames.E)) : SumOk Tryz.prog i_readFrames.E (cB (cL (cR (cR (bodyOf Tryz.f102))))) (i_readFrames.S1) := by
  have hh : HintOk Tryz.prog i_readFrames.E (cB (cB (cL (cR (cR (bodyOf Tryz.f102)))))) (.a) := HintOk.n1 (Q := True) (by kernel_rfl) trivial
  have h := loopS (kin := ([], [0, 5, 6])) (kout := i_readFrames.ko1) (sh := i_readFrames.sh1) (F := i_readFrames.G1) (ops_ok (hE.gv _)) (by kernel_rfl) hh (fun _ _ _ => rfl) (fun n R t K => by kernel_rfl) fuel
  exact HintOk.n1 (c := (cB (cL (cR (cR (bodyOf Tryz.f102)))))) (h := .s (i_readFrames.S1)) (P := Tryz.prog) (E := i_readFrames.E) (by kernel_rfl) h
theorem i_readFrames.hok (hE : EOk Tryz.prog (i_readFrames.E)) : HintOk Tryz.prog i_readFrames.E (bodyOf Tryz.f102) (.n (.a) (.n (.a) (.n (.b (.s (i_readFrames.S1))) (.a)))) := HintOk.n1 (Q := (True) ∧ ((True) ∧ ((SumOk Tryz.prog i_readFrames.E (cB (cL (cR (cR (bodyOf Tryz.f102))))) (i_readFrames.S1)) ∧ (True)))) (by kernel_rfl) ⟨trivial, ⟨trivial, ⟨(i_readFrames.ok1 hE), trivial⟩⟩⟩
theorem i_readFrames.hE : EOk Tryz.prog (i_readFrames.E) := EOk.of ttOk (⟨i_frameAt.fok, trivial⟩)
theorem i_readFrames.fok : FOk Tryz.prog 102 i_readFrames.fi :=
  fokS (E := i_readFrames.E) (wy := ⟨[[some (.str, true)], [none], [none]], [[]], []⟩) (h := (fun gs => .n (.a) (.n (.a) (.n (.b (.s (i_readFrames.S1))) (.a))))) (G := fun t g => i_readFrames.F (fun y0 y1 y2 => g (y0, y1, y2)) t.1) (by kernel_rfl) i_readFrames.hE Tryz.func102 (by kernel_rfl) rfl (Nat.le_refl _) (fun t => HintOk.n1 (by kernel_rfl) (i_readFrames.hok i_readFrames.hE)) (fun t g => i_readFrames_nat g t.1) (fun t => by kernel_rfl)
/-! _loop.example_g00220_impl.Wal_.next -/
def i_Wal_next.F {R : Type} (kk : Int → Option R) (w_First : Int) (w_Records : List ByteArray) (w_Names : List ByteArray) (w_Torn : Int) : Option R :=
  kk (IntKind.wrap .i64 (w_First + (List.length w_Records : Int)))
theorem i_Wal_next.F_nat {R S : Type} (g : R → Option S) (kk : Int → Option R) (w_First : Int) (w_Records : List ByteArray) (w_Names : List ByteArray) (w_Torn : Int) : i_Wal_next.F (fun y0 => (kk y0).bind g) w_First w_Records w_Names w_Torn = (i_Wal_next.F kk w_First w_Records w_Names w_Torn).bind g := by
  simp only [i_Wal_next.F, grd_bind, cnd_bind, bnd_bind, non_bind]
def i_Wal_next (w_First : Int) (w_Records : List ByteArray) (w_Names : List ByteArray) (w_Torn : Int) : Option Int := i_Wal_next.F (fun y0 => some y0) w_First w_Records w_Names w_Torn
theorem i_Wal_next_nat {S : Type} (g : Int → Option S) (w_First : Int) (w_Records : List ByteArray) (w_Names : List ByteArray) (w_Torn : Int) : i_Wal_next.F (fun y0 => g y0) w_First w_Records w_Names w_Torn = (i_Wal_next w_First w_Records w_Names w_Torn).bind g := i_Wal_next.F_nat g (fun y0 => some y0) w_First w_Records w_Names w_Torn
def i_Wal_next.out : Int → CRes := fun a => ⟨encL SV.enc [.one (.int .i64)] (a, ()), [encL SC.enc [] ()]⟩
def i_Wal_next.ps : List PS := [.val [none, some (.str, false), some (.str, false), none]]
def i_Wal_next.sA : List SA := [.v (.agg [.int .i64, .slv [] .str, .slv [] .str, .int .i64])]
def i_Wal_next.fi : FI := FIs i_Wal_next.sA (Int) (fun t => i_Wal_next t.1.1 t.1.2.1 t.1.2.2.1 t.1.2.2.2.1) i_Wal_next.out i_Wal_next.ps
def i_Wal_next.E : Env := ⟨tt, lkF [], 9, 0, [], []⟩
theorem i_Wal_next.hok (hE : EOk Tryz.prog (i_Wal_next.E)) : HintOk Tryz.prog i_Wal_next.E (bodyOf Tryz.f153) (.a) := HintOk.n1 (Q := True) (by kernel_rfl) trivial
theorem i_Wal_next.hE : EOk Tryz.prog (i_Wal_next.E) := EOk.of ttOk (trivial)
theorem i_Wal_next.fok : FOk Tryz.prog 153 i_Wal_next.fi :=
  fokS (E := i_Wal_next.E) (wy := ⟨[[none]], [[]], []⟩) (h := (fun gs => .a)) (G := fun t g => i_Wal_next.F (fun y0 => g y0) t.1.1 t.1.2.1 t.1.2.2.1 t.1.2.2.2.1) (by kernel_rfl) i_Wal_next.hE Tryz.func153 (by kernel_rfl) rfl (Nat.le_refl _) (fun t => HintOk.n1 (by kernel_rfl) (i_Wal_next.hok i_Wal_next.hE)) (fun t g => i_Wal_next_nat g t.1.1 t.1.2.1 t.1.2.2.1 t.1.2.2.2.1) (fun t => by kernel_rfl)
/-! __loop.example_g00220_impl.walReader_.segment -/
def i_walReader_segment.j1 {R : Type} (kkn : Bool → Int → Int → Bool → Int → Int → Int → ByteArray → ByteArray → Int → List ByteArray → List ByteArray → List ByteArray → Option R) (isLast : Bool) (used : Int) (code : Int) (number : Int) (r : Int) (r1 : Int) (r2 : Int) (f : ByteArray) (f1 : ByteArray) (f2 : Int) (frames : List ByteArray) (l : List ByteArray) (l1 : List ByteArray) : Option R :=
  cond (code != (0 : Int)) (
    cond (isLast) (kkn isLast used number (!(code == (16 : Int))) r r1 r2 f f1 f2 frames l l1) (kkn isLast used number true r r1 r2 f f1 f2 frames l l1)) (kkn isLast used number false r r1 r2 f f1 f2 frames l l1)
theorem i_walReader_segment.j1_nat {R S : Type} (g : R → Option S) (kkn : Bool → Int → Int → Bool → Int → Int → Int → ByteArray → ByteArray → Int → List ByteArray → List ByteArray → List ByteArray → Option R) (isLast : Bool) (used : Int) (code : Int) (number : Int) (r : Int) (r1 : Int) (r2 : Int) (f : ByteArray) (f1 : ByteArray) (f2 : Int) (frames : List ByteArray) (l : List ByteArray) (l1 : List ByteArray) : i_walReader_segment.j1 (fun y0 y1 y2 y3 y4 y5 y6 y7 y8 y9 y10 y11 y12 => (kkn y0 y1 y2 y3 y4 y5 y6 y7 y8 y9 y10 y11 y12).bind g) isLast used code number r r1 r2 f f1 f2 frames l l1 = (i_walReader_segment.j1 kkn isLast used code number r r1 r2 f f1 f2 frames l l1).bind g := by
  simp only [i_walReader_segment.j1, grd_bind, cnd_bind, bnd_bind, non_bind]
def i_walReader_segment.j2 {R : Type} (kkn : Int → Int → Int → Int → Int → ByteArray → ByteArray → Int → List ByteArray → List ByteArray → List ByteArray → Option R) (kkr : Int → Int → Int → Int → List ByteArray → List ByteArray → Option R) (isLast : Bool) (used : Int) (code : Int) (number : Int) (r : Int) (r1 : Int) (r2 : Int) (f : ByteArray) (f1 : ByteArray) (f2 : Int) (frames : List ByteArray) (l : List ByteArray) (l1 : List ByteArray) : Option R :=
  i_walReader_segment.j1 (fun isLast1 used1 number1 b r3 r4 r5 f3 f4 f5 frames1 l2 l3 =>
    cond (b) (kkr (8 : Int) r3 r4 r5 l2 l3) (
      cond (decide (r5 > (0 : Int))) (
        cond (number1 != (IntKind.wrap .i64 (r5 + (1 : Int)))) (kkr (3 : Int) r3 r4 r5 l2 l3) (
          cond ((List.length frames1 : Int) == (0 : Int)) (
            cond (!isLast1) (kkr (3 : Int) r3 r4 r5 l2 l3) (kkn used1 number1 r3 r4 r5 f3 f4 f5 frames1 l2 l3)) (kkn used1 number1 r3 r4 r5 f3 f4 f5 frames1 l2 l3))) (
        cond ((List.length frames1 : Int) == (0 : Int)) (
          cond (!isLast1) (kkr (3 : Int) r3 r4 r5 l2 l3) (kkn used1 number1 r3 r4 r5 f3 f4 f5 frames1 l2 l3)) (kkn used1 number1 r3 r4 r5 f3 f4 f5 frames1 l2 l3)))) isLast used code number r r1 r2 f f1 f2 frames l l1
theorem i_walReader_segment.j2_nat {R S : Type} (g : R → Option S) (kkn : Int → Int → Int → Int → Int → ByteArray → ByteArray → Int → List ByteArray → List ByteArray → List ByteArray → Option R) (kkr : Int → Int → Int → Int → List ByteArray → List ByteArray → Option R) (isLast : Bool) (used : Int) (code : Int) (number : Int) (r : Int) (r1 : Int) (r2 : Int) (f : ByteArray) (f1 : ByteArray) (f2 : Int) (frames : List ByteArray) (l : List ByteArray) (l1 : List ByteArray) : i_walReader_segment.j2 (fun y0 y1 y2 y3 y4 y5 y6 y7 y8 y9 y10 => (kkn y0 y1 y2 y3 y4 y5 y6 y7 y8 y9 y10).bind g) (fun y0 y1 y2 y3 y4 y5 => (kkr y0 y1 y2 y3 y4 y5).bind g) isLast used code number r r1 r2 f f1 f2 frames l l1 = (i_walReader_segment.j2 kkn kkr isLast used code number r r1 r2 f f1 f2 frames l l1).bind g := by
  simp only [i_walReader_segment.j2, grd_bind, cnd_bind, bnd_bind, non_bind, ← i_walReader_segment.j1_nat]
def i_walReader_segment.j3 {R : Type} (kkn : Int → Int → Int → Int → List ByteArray → List ByteArray → List ByteArray → Option R) (kkr : Int → Int → Int → Int → List ByteArray → List ByteArray → Option R) (first : Int) (r : Int) (r1 : Int) (r2 : Int) (frames : List ByteArray) (l : List ByteArray) (l1 : List ByteArray) : Option R :=
  grd (gIx (0 : Int) (List.length frames)) <|
  cond ((ByteArray.size (rdE (.str : Kd) frames (Int.toNat (0 : Int))) : Int) != (4 : Int)) (kkr (3 : Int) r r1 r2 l l1) (
    cond (decide ((List.length l1 : Int) > (1 : Int))) (
      (i_Wal_next r l l1 r1).bind fun r3 =>
      cond (first != r3) (kkr (3 : Int) r r1 r2 l l1) (kkn first r r1 r2 frames l l1)) (kkn first r r1 r2 frames l l1))
theorem i_walReader_segment.j3_nat {R S : Type} (g : R → Option S) (kkn : Int → Int → Int → Int → List ByteArray → List ByteArray → List ByteArray → Option R) (kkr : Int → Int → Int → Int → List ByteArray → List ByteArray → Option R) (first : Int) (r : Int) (r1 : Int) (r2 : Int) (frames : List ByteArray) (l : List ByteArray) (l1 : List ByteArray) : i_walReader_segment.j3 (fun y0 y1 y2 y3 y4 y5 y6 => (kkn y0 y1 y2 y3 y4 y5 y6).bind g) (fun y0 y1 y2 y3 y4 y5 => (kkr y0 y1 y2 y3 y4 y5).bind g) first r r1 r2 frames l l1 = (i_walReader_segment.j3 kkn kkr first r r1 r2 frames l l1).bind g := by
  simp only [i_walReader_segment.j3, grd_bind, cnd_bind, bnd_bind, non_bind]
def i_walReader_segment.j4 {R : Type} (kkn : Int → Int → Int → List ByteArray → List ByteArray → List ByteArray → Option R) (first : Int) (r : Int) (r1 : Int) (r2 : Int) (frames : List ByteArray) (l : List ByteArray) (l1 : List ByteArray) : Option R :=
  cond ((List.length l1 : Int) == (1 : Int)) (kkn first r1 r2 frames l l1) (kkn r r1 r2 frames l l1)
theorem i_walReader_segment.j4_nat {R S : Type} (g : R → Option S) (kkn : Int → Int → Int → List ByteArray → List ByteArray → List ByteArray → Option R) (first : Int) (r : Int) (r1 : Int) (r2 : Int) (frames : List ByteArray) (l : List ByteArray) (l1 : List ByteArray) : i_walReader_segment.j4 (fun y0 y1 y2 y3 y4 y5 => (kkn y0 y1 y2 y3 y4 y5).bind g) first r r1 r2 frames l l1 = (i_walReader_segment.j4 kkn first r r1 r2 frames l l1).bind g := by
  simp only [i_walReader_segment.j4, grd_bind, cnd_bind, bnd_bind, non_bind]
def i_walReader_segment.F {R : Type} (kk : Int → Int → List ByteArray → List ByteArray → Int → Int → Option R) (r_wal_First : Int) (r_wal_Records : List ByteArray) (r_wal_Names : List ByteArray) (r_wal_Torn : Int) (r_last : Int) (f_Name : ByteArray) (f_Data : ByteArray) (f_Sure : Int) (isLast : Bool) : Option R :=
  (i_readFrames f_Data).bind fun r =>
  (i_segmentOf f_Name).bind fun r1 =>
  i_walReader_segment.j2 (fun used number r2 r3 r4 f f1 f2 frames l l1 =>
    grd (gRm (((List.length l1) + (List.length [f])) * 16)) <|
    cond ((List.length frames : Int) == (0 : Int)) (kk (0 : Int) r2 l (l1 ++ [f]) (IntKind.wrap .i64 ((ByteArray.size f1 : Int) - used)) number) (
      grd (gIx (0 : Int) (List.length frames)) <|
      (i_numberOf (rdE (.str : Kd) frames (Int.toNat (0 : Int)))).bind fun r5 =>
      i_walReader_segment.j3 (fun first r6 r7 r8 frames1 l2 l3 =>
        i_walReader_segment.j4 (fun r9 r10 r11 frames2 l4 l5 =>
          grd (gSl (1 : Int) (List.length frames2 : Int) (List.length frames2)) <|
          grd (gRm (((List.length l4) + (List.length (sub frames2 (1 : Int) (List.length frames2 : Int)))) * 16)) <|
          kk (0 : Int) r9 (l4 ++ (sub frames2 (1 : Int) (List.length frames2 : Int))) l5 r10 r11) first r6 r7 r8 frames1 l2 l3) (fun i r12 r13 r14 l6 l7 => kk i r12 l6 l7 r13 r14) r5 r2 (IntKind.wrap .i64 ((ByteArray.size f1 : Int) - used)) number frames l (l1 ++ [f]))) (fun i1 r15 r16 r17 l8 l9 => kk i1 r15 l8 l9 r16 r17) isLast r.2.1 r.2.2 r1 r_wal_First r_wal_Torn r_last f_Name f_Data f_Sure r.1 r_wal_Records r_wal_Names
theorem i_walReader_segment.F_nat {R S : Type} (g : R → Option S) (kk : Int → Int → List ByteArray → List ByteArray → Int → Int → Option R) (r_wal_First : Int) (r_wal_Records : List ByteArray) (r_wal_Names : List ByteArray) (r_wal_Torn : Int) (r_last : Int) (f_Name : ByteArray) (f_Data : ByteArray) (f_Sure : Int) (isLast : Bool) : i_walReader_segment.F (fun y0 y1 y2 y3 y4 y5 => (kk y0 y1 y2 y3 y4 y5).bind g) r_wal_First r_wal_Records r_wal_Names r_wal_Torn r_last f_Name f_Data f_Sure isLast = (i_walReader_segment.F kk r_wal_First r_wal_Records r_wal_Names r_wal_Torn r_last f_Name f_Data f_Sure isLast).bind g := by
  simp only [i_walReader_segment.F, grd_bind, cnd_bind, bnd_bind, non_bind, ← i_walReader_segment.j2_nat, ← i_walReader_segment.j3_nat, ← i_walReader_segment.j4_nat]
def i_walReader_segment (r_wal_First : Int) (r_wal_Records : List ByteArray) (r_wal_Names : List ByteArray) (r_wal_Torn : Int) (r_last : Int) (f_Name : ByteArray) (f_Data : ByteArray) (f_Sure : Int) (isLast : Bool) : Option (Int × Int × List ByteArray × List ByteArray × Int × Int) := i_walReader_segment.F (fun y0 y1 y2 y3 y4 y5 => some (y0, y1, y2, y3, y4, y5)) r_wal_First r_wal_Records r_wal_Names r_wal_Torn r_last f_Name f_Data f_Sure isLast
theorem i_walReader_segment_nat {S : Type} (g : (Int × Int × List ByteArray × List ByteArray × Int × Int) → Option S) (r_wal_First : Int) (r_wal_Records : List ByteArray) (r_wal_Names : List ByteArray) (r_wal_Torn : Int) (r_last : Int) (f_Name : ByteArray) (f_Data : ByteArray) (f_Sure : Int) (isLast : Bool) : i_walReader_segment.F (fun y0 y1 y2 y3 y4 y5 => g (y0, y1, y2, y3, y4, y5)) r_wal_First r_wal_Records r_wal_Names r_wal_Torn r_last f_Name f_Data f_Sure isLast = (i_walReader_segment r_wal_First r_wal_Records r_wal_Names r_wal_Torn r_last f_Name f_Data f_Sure isLast).bind g := i_walReader_segment.F_nat g (fun y0 y1 y2 y3 y4 y5 => some (y0, y1, y2, y3, y4, y5)) r_wal_First r_wal_Records r_wal_Names r_wal_Torn r_last f_Name f_Data f_Sure isLast
def i_walReader_segment.out : (Int × Int × List ByteArray × List ByteArray × Int × Int) → CRes := fun a => ⟨encL SV.enc [.one (.int .i64)] (a.1, ()), [encL SC.enc [.int .i64, .own [] .str true, .own [] .str true, .int .i64, .int .i64] (a.2.1, a.2.2.1, a.2.2.2.1, a.2.2.2.2.1, a.2.2.2.2.2, ()), encL SC.enc [] (), encL SC.enc [] ()]⟩
def i_walReader_segment.ps : List PS := [.ptr [none, some (.str, true), some (.str, true), none, none], .val [none, none, none], .val [none]]
def i_walReader_segment.sA : List SA := [.ptr [.int .i64, .own [] .str true, .own [] .str true, .int .i64, .int .i64], .v (.agg [.str, .str, .int .i64]), .v (.one (.bool))]
def i_walReader_segment.fi : FI := FIs i_walReader_segment.sA (Int × Int × List ByteArray × List ByteArray × Int × Int) (fun t => i_walReader_segment t.1.1 t.1.2.1 t.1.2.2.1 t.1.2.2.2.1 t.1.2.2.2.2.1 t.2.1.1 t.2.1.2.1 t.2.1.2.2.1 t.2.2.1) i_walReader_segment.out i_walReader_segment.ps
def i_walReader_segment.E : Env := ⟨tt, lkF [(102, i_readFrames.fi), (103, i_numberOf.fi), (115, i_segmentOf.fi), (153, i_Wal_next.fi)], 137, 1, [], []⟩
def i_walReader_segment.sh1 : SK := ⟨[.v (.one (.bptr 0 0)), .v (.one (.bool)), .v (.one (.bptr 1 0)), .v (.one (.slo 2)), .v (.one (.int .i64)), .v (.one (.int .i64)), .v (.one (.int .i64))], [.box [.int .i64, .slo 3, .slo 4, .int .i64, .int .i64], .box [.str, .str, .int .i64], .arr .str [] true, .arr .str [] true, .arr .str [] true]⟩
def i_walReader_segment.sh1n : SK := ⟨[.v (.one (.bptr 0 0)), .v (.one (.bool)), .v (.one (.bptr 1 0)), .v (.one (.slo 2)), .v (.one (.int .i64)), .v (.one (.int .i64)), .v (.one (.bool))], [.box [.int .i64, .slo 3, .slo 4, .int .i64, .int .i64], .box [.str, .str, .int .i64], .arr .str [] true, .arr .str [] true, .arr .str [] true]⟩
def i_walReader_segment.ko1 : Ex → List CastAt × List Nat
  | .nrm => ([], [0, 2, 4, 7, 8, 10, 22])
  | .ret => ([], [])
  | .ext i => ([], [])
def i_walReader_segment.G1 (R : Type) (t : i_walReader_segment.sh1.T) (K : Ex → Kp → Option R) : Option R := i_walReader_segment.j1 (fun y0 y1 y2 y3 y4 y5 y6 y7 y8 y9 y10 y11 y12 => K .nrm (SK.enc i_walReader_segment.sh1n (((), y0, (), (), y1, y2, y3, ()), ((y4, (), (), y5, y6, ()), (y7, y8, y9, ()), y10, y11, y12, ())))) t.1.2.1 t.1.2.2.2.2.1 t.1.2.2.2.2.2.1 t.1.2.2.2.2.2.2.1 t.2.1.1 t.2.1.2.2.2.1 t.2.1.2.2.2.2.1 t.2.2.1.1 t.2.2.1.2.1 t.2.2.1.2.2.1 t.2.2.2.1 t.2.2.2.2.1 t.2.2.2.2.2.1
def i_walReader_segment.S1 : Sum := ⟨([], [0, 2, 4, 7, 8, 9, 10]), sumF i_walReader_segment.sh1 (i_walReader_segment.G1), i_walReader_segment.ko1⟩
theorem i_walReader_segment.ok1 (hE : EOk Tryz.prog (i_walReader_segment.E)) : SumOk Tryz.prog i_walReader_segment.E (cL (cB (cL (cR (cR (cR (bodyOf Tryz.f116))))))) (i_walReader_segment.S1) := by
  have hh : HintOk Tryz.prog i_walReader_segment.E (cL (cB (cL (cR (cR (cR (bodyOf Tryz.f116))))))) (.a) := HintOk.n1 (Q := True) (by kernel_rfl) trivial
  exact sumS (kin := ([], [0, 2, 4, 7, 8, 9, 10])) (kout := i_walReader_segment.ko1) (sh := i_walReader_segment.sh1) (F := i_walReader_segment.G1) (ops_ok (hE.gv _)) (by kernel_rfl) hh (fun R t K => by kernel_rfl)
def i_walReader_segment.sh2 : SK := ⟨[.v (.one (.bptr 0 0)), .v (.one (.bool)), .v (.one (.bptr 1 0)), .v (.one (.slo 2)), .v (.one (.int .i64)), .v (.one (.int .i64)), .v (.one (.int .i64))], [.box [.int .i64, .slo 3, .slo 4, .int .i64, .int .i64], .box [.str, .str, .int .i64], .arr .str [] true, .arr .str [] true, .arr .str [] true]⟩
def i_walReader_segment.sh2n : SK := ⟨[.v (.one (.bptr 0 0)), .v (.one (.bptr 1 0)), .v (.one (.slo 2)), .v (.one (.int .i64)), .v (.one (.int .i64))], [.box [.int .i64, .slo 3, .slo 4, .int .i64, .int .i64], .box [.str, .str, .int .i64], .arr .str [] true, .arr .str [] true, .arr .str [] true]⟩
def i_walReader_segment.sh2r : SK := ⟨[.v (.one (.bptr 0 0)), .v (.one (.int .i64))], [.box [.int .i64, .slo 1, .slo 2, .int .i64, .int .i64], .arr .str [] true, .arr .str [] true]⟩
def i_walReader_segment.ko2 : Ex → List CastAt × List Nat
  | .nrm => ([], [0, 4, 7, 8, 10])
  | .ret => ([], [0, 6])
  | .ext i => ([], [])
def i_walReader_segment.G2 (R : Type) (t : i_walReader_segment.sh2.T) (K : Ex → Kp → Option R) : Option R := i_walReader_segment.j2 (fun y0 y1 y2 y3 y4 y5 y6 y7 y8 y9 y10 => K .nrm (SK.enc i_walReader_segment.sh2n (((), (), (), y0, y1, ()), ((y2, (), (), y3, y4, ()), (y5, y6, y7, ()), y8, y9, y10, ())))) (fun y0 y1 y2 y3 y4 y5 => K .ret (SK.enc i_walReader_segment.sh2r (((), y0, ()), ((y1, (), (), y2, y3, ()), y4, y5, ())))) t.1.2.1 t.1.2.2.2.2.1 t.1.2.2.2.2.2.1 t.1.2.2.2.2.2.2.1 t.2.1.1 t.2.1.2.2.2.1 t.2.1.2.2.2.2.1 t.2.2.1.1 t.2.2.1.2.1 t.2.2.1.2.2.1 t.2.2.2.1 t.2.2.2.2.1 t.2.2.2.2.2.1
def i_walReader_segment.S2 : Sum := ⟨([], [0, 2, 4, 7, 8, 9, 10]), sumF i_walReader_segment.sh2 (i_walReader_segment.G2), i_walReader_segment.ko2⟩
theorem i_walReader_segment.ok2 (hE : EOk Tryz.prog (i_walReader_segment.E)) : SumOk Tryz.prog i_walReader_segment.E (cL (cR (cR (cR (bodyOf Tryz.f116))))) (i_walReader_segment.S2) := by
  have hh : HintOk Tryz.prog i_walReader_segment.E (cL (cR (cR (cR (bodyOf Tryz.f116))))) (.b (.n (.s (i_walReader_segment.S1)) (.a))) := HintOk.n1 (Q := (SumOk Tryz.prog i_walReader_segment.E (cL (cB (cL (cR (cR (cR (bodyOf Tryz.f116))))))) (i_walReader_segment.S1)) ∧ (True)) (by kernel_rfl) ⟨(i_walReader_segment.ok1 hE), trivial⟩
  exact sumS (kin := ([], [0, 2, 4, 7, 8, 9, 10])) (kout := i_walReader_segment.ko2) (sh := i_walReader_segment.sh2) (F := i_walReader_segment.G2) (ops_ok (hE.gv _)) (by kernel_rfl) hh (fun R t K => by kernel_rfl)
def i_walReader_segment.sh3 : SK := ⟨[.v (.one (.bptr 0 0)), .v (.one (.slo 1)), .v (.one (.int .i64))], [.box [.int .i64, .slo 2, .slo 3, .int .i64, .int .i64], .arr .str [] true, .arr .str [] true, .arr .str [] true]⟩
def i_walReader_segment.sh3n : SK := ⟨[.v (.one (.bptr 0 0)), .v (.one (.slo 1)), .v (.one (.int .i64))], [.box [.int .i64, .slo 2, .slo 3, .int .i64, .int .i64], .arr .str [] true, .arr .str [] true, .arr .str [] true]⟩
def i_walReader_segment.sh3r : SK := ⟨[.v (.one (.bptr 0 0)), .v (.one (.int .i64))], [.box [.int .i64, .slo 1, .slo 2, .int .i64, .int .i64], .arr .str [] true, .arr .str [] true]⟩
def i_walReader_segment.ko3 : Ex → List CastAt × List Nat
  | .nrm => ([], [0, 7, 11])
  | .ret => ([], [0, 6])
  | .ext i => ([], [])
def i_walReader_segment.G3 (R : Type) (t : i_walReader_segment.sh3.T) (K : Ex → Kp → Option R) : Option R := i_walReader_segment.j3 (fun y0 y1 y2 y3 y4 y5 y6 => K .nrm (SK.enc i_walReader_segment.sh3n (((), (), y0, ()), ((y1, (), (), y2, y3, ()), y4, y5, y6, ())))) (fun y0 y1 y2 y3 y4 y5 => K .ret (SK.enc i_walReader_segment.sh3r (((), y0, ()), ((y1, (), (), y2, y3, ()), y4, y5, ())))) t.1.2.2.1 t.2.1.1 t.2.1.2.2.2.1 t.2.1.2.2.2.2.1 t.2.2.1 t.2.2.2.1 t.2.2.2.2.1
def i_walReader_segment.S3 : Sum := ⟨([], [0, 7, 11]), sumF i_walReader_segment.sh3 (i_walReader_segment.G3), i_walReader_segment.ko3⟩
theorem i_walReader_segment.ok3 (hE : EOk Tryz.prog (i_walReader_segment.E)) : SumOk Tryz.prog i_walReader_segment.E (cL (cR (cR (cR (cR (cR (cR (cR (bodyOf Tryz.f116))))))))) (i_walReader_segment.S3) := by
  have hh : HintOk Tryz.prog i_walReader_segment.E (cL (cR (cR (cR (cR (cR (cR (cR (bodyOf Tryz.f116))))))))) (.a) := HintOk.n1 (Q := True) (by kernel_rfl) trivial
  exact sumS (kin := ([], [0, 7, 11])) (kout := i_walReader_segment.ko3) (sh := i_walReader_segment.sh3) (F := i_walReader_segment.G3) (ops_ok (hE.gv _)) (by kernel_rfl) hh (fun R t K => by kernel_rfl)
def i_walReader_segment.sh4 : SK := ⟨[.v (.one (.bptr 0 0)), .v (.one (.slo 1)), .v (.one (.int .i64))], [.box [.int .i64, .slo 2, .slo 3, .int .i64, .int .i64], .arr .str [] true, .arr .str [] true, .arr .str [] true]⟩
def i_walReader_segment.sh4n : SK := ⟨[.v (.one (.bptr 0 0)), .v (.one (.slo 1))], [.box [.int .i64, .slo 2, .slo 3, .int .i64, .int .i64], .arr .str [] true, .arr .str [] true, .arr .str [] true]⟩
def i_walReader_segment.ko4 : Ex → List CastAt × List Nat
  | .nrm => ([], [0, 7])
  | .ret => ([], [])
  | .ext i => ([], [])
def i_walReader_segment.G4 (R : Type) (t : i_walReader_segment.sh4.T) (K : Ex → Kp → Option R) : Option R := i_walReader_segment.j4 (fun y0 y1 y2 y3 y4 y5 => K .nrm (SK.enc i_walReader_segment.sh4n (((), (), ()), ((y0, (), (), y1, y2, ()), y3, y4, y5, ())))) t.1.2.2.1 t.2.1.1 t.2.1.2.2.2.1 t.2.1.2.2.2.2.1 t.2.2.1 t.2.2.2.1 t.2.2.2.2.1
def i_walReader_segment.S4 : Sum := ⟨([], [0, 7, 11]), sumF i_walReader_segment.sh4 (i_walReader_segment.G4), i_walReader_segment.ko4⟩
theorem i_walReader_segment.ok4 (hE : EOk Tryz.prog (i_walReader_segment.E)) : SumOk Tryz.prog i_walReader_segment.E (cL (cR (cR (cR (cR (cR (cR (cR (cR (bodyOf Tryz.f116)))))))))) (i_walReader_segment.S4) := by
  have hh : HintOk Tryz.prog i_walReader_segment.E (cL (cR (cR (cR (cR (cR (cR (cR (cR (bodyOf Tryz.f116)))))))))) (.a) := HintOk.n1 (Q := True) (by kernel_rfl) trivial
  exact sumS (kin := ([], [0, 7, 11])) (kout := i_walReader_segment.ko4) (sh := i_walReader_segment.sh4) (F := i_walReader_segment.G4) (ops_ok (hE.gv _)) (by kernel_rfl) hh (fun R t K => by kernel_rfl)
theorem i_walReader_segment.hok (hE : EOk Tryz.prog (i_walReader_segment.E)) : HintOk Tryz.prog i_walReader_segment.E (bodyOf Tryz.f116) (.n (.a) (.n (.a) (.n (.a) (.n (.s (i_walReader_segment.S2)) (.n (.a) (.n (.a) (.n (.a) (.n (.s (i_walReader_segment.S3)) (.n (.s (i_walReader_segment.S4)) (.a)))))))))) := HintOk.n1 (Q := (True) ∧ ((True) ∧ ((True) ∧ ((SumOk Tryz.prog i_walReader_segment.E (cL (cR (cR (cR (bodyOf Tryz.f116))))) (i_walReader_segment.S2)) ∧ ((True) ∧ ((True) ∧ ((True) ∧ ((SumOk Tryz.prog i_walReader_segment.E (cL (cR (cR (cR (cR (cR (cR (cR (bodyOf Tryz.f116))))))))) (i_walReader_segment.S3)) ∧ ((SumOk Tryz.prog i_walReader_segment.E (cL (cR (cR (cR (cR (cR (cR (cR (cR (bodyOf Tryz.f116)))))))))) (i_walReader_segment.S4)) ∧ (True)))))))))) (by kernel_rfl) ⟨trivial, ⟨trivial, ⟨trivial, ⟨(i_walReader_segment.ok2 hE), ⟨trivial, ⟨trivial, ⟨trivial, ⟨(i_walReader_segment.ok3 hE), ⟨(i_walReader_segment.ok4 hE), trivial⟩⟩⟩⟩⟩⟩⟩⟩⟩
theorem i_walReader_segment.hE : EOk Tryz.prog (i_walReader_segment.E) := EOk.of ttOk (⟨i_readFrames.fok, ⟨i_numberOf.fok, ⟨i_segmentOf.fok, ⟨i_Wal_next.fok, trivial⟩⟩⟩⟩)
theorem i_walReader_segment.fok : FOk Tryz.prog 116 i_walReader_segment.fi :=
  fokS (E := i_walReader_segment.E) (wy := ⟨[[none]], [[none, some (.str, true), some (.str, true), none, none], [], []], []⟩) (h := (fun gs => .n (.a) (.n (.a) (.n (.a) (.n (.s (i_walReader_segment.S2)) (.n (.a) (.n (.a) (.n (.a) (.n (.s (i_walReader_segment.S3)) (.n (.s (i_walReader_segment.S4)) (.a))))))))))) (G := fun t g => i_walReader_segment.F (fun y0 y1 y2 y3 y4 y5 => g (y0, y1, y2, y3, y4, y5)) t.1.1 t.1.2.1 t.1.2.2.1 t.1.2.2.2.1 t.1.2.2.2.2.1 t.2.1.1 t.2.1.2.1 t.2.1.2.2.1 t.2.2.1) (by kernel_rfl) i_walReader_segment.hE Tryz.func116 (by kernel_rfl) rfl (Nat.le_refl _) (fun t => HintOk.n1 (by kernel_rfl) (i_walReader_segment.hok i_walReader_segment.hE)) (fun t g => i_walReader_segment_nat g t.1.1 t.1.2.1 t.1.2.2.1 t.1.2.2.2.1 t.1.2.2.2.2.1 t.2.1.1 t.2.1.2.1 t.2.1.2.2.1 t.2.2.1) (fun t => by kernel_rfl)
/-! loop.example_g00220_impl.walRead -/
def i_walRead.l1 {R : Type} (kke0 : Int → Int → List (El kFile) → Option R) : Nat → List (El kFile) → Int → Int → Int → Int → List (El kFile) → Option R
  | 0, _, _, _, _, _, _ => none
  | n + 1, l, i, i1, i2, i3, segments =>
    cond (decide (i1 < i)) (
      grd (gIx i1 (List.length l)) <|
      (i_segmentOf ((rdE kFile l (Int.toNat i1)).1)).bind fun r =>
      cond (decide (r > (0 : Int))) (
        grd (gRm (((List.length segments) + (List.length [rdE kFile l (Int.toNat i1)])) * 40)) <|
        i_walRead.l1 kke0 n l i (IntKind.wrap .i64 (i1 + (1 : Int))) i2 i3 (segments ++ [rdE kFile l (Int.toNat i1)])) (i_walRead.l1 kke0 n l i (IntKind.wrap .i64 (i1 + (1 : Int))) i2 i3 segments)) (kke0 i2 i3 segments)
theorem i_walRead.l1_nat {R S : Type} (g : R → Option S) (kke0 : Int → Int → List (El kFile) → Option R) : ∀ (n : Nat) (l : List (El kFile)) (i : Int) (i1 : Int) (i2 : Int) (i3 : Int) (segments : List (El kFile)), i_walRead.l1 (fun y0 y1 y2 => (kke0 y0 y1 y2).bind g) n l i i1 i2 i3 segments = (i_walRead.l1 kke0 n l i i1 i2 i3 segments).bind g := by
  intro n
  induction n with
  | zero => intros; rfl
  | succ n ih => intros; simp only [i_walRead.l1, grd_bind, cnd_bind, bnd_bind, non_bind, ih]
def i_walRead.l2 {R : Type} (kke2 : Int → Int → Int → Int → Int → List ByteArray → List ByteArray → Option R) (kkr : Int → Int → Int → Option R) : Nat → Int → Int → Int → Int → List (El kFile) → Int → Int → Int → List ByteArray → List ByteArray → Option R
  | 0, _, _, _, _, _, _, _, _, _, _ => none
  | n + 1, i, i1, i2, i3, segments, r, r1, r2, l, l1 =>
    cond (decide (i1 < i)) (
      grd (gIx i1 (List.length segments)) <|
      (i_walReader_segment r l l1 r1 r2 ((rdE kFile segments (Int.toNat i1)).1) ((rdE kFile segments (Int.toNat i1)).2.1) ((rdE kFile segments (Int.toNat i1)).2.2) (i1 == (IntKind.wrap .i64 ((List.length segments : Int) - (1 : Int))))).bind fun r3 =>
      cond (r3.1 != (0 : Int)) (kkr r3.1 (0 : Int) (0 : Int)) (
        i_walRead.l2 kke2 kkr n i (IntKind.wrap .i64 (i1 + (1 : Int))) i2 i3 segments r3.2.1 r3.2.2.2.2.1 r3.2.2.2.2.2 r3.2.2.1 r3.2.2.2.1)) (kke2 i2 i3 r r1 r2 l l1)
theorem i_walRead.l2_nat {R S : Type} (g : R → Option S) (kke2 : Int → Int → Int → Int → Int → List ByteArray → List ByteArray → Option R) (kkr : Int → Int → Int → Option R) : ∀ (n : Nat) (i : Int) (i1 : Int) (i2 : Int) (i3 : Int) (segments : List (El kFile)) (r : Int) (r1 : Int) (r2 : Int) (l : List ByteArray) (l1 : List ByteArray), i_walRead.l2 (fun y0 y1 y2 y3 y4 y5 y6 => (kke2 y0 y1 y2 y3 y4 y5 y6).bind g) (fun y0 y1 y2 => (kkr y0 y1 y2).bind g) n i i1 i2 i3 segments r r1 r2 l l1 = (i_walRead.l2 kke2 kkr n i i1 i2 i3 segments r r1 r2 l l1).bind g := by
  intro n
  induction n with
  | zero => intros; rfl
  | succ n ih => intros; simp only [i_walRead.l2, grd_bind, cnd_bind, bnd_bind, non_bind, ih]
def i_walRead.F {R : Type} (kk : Int → List ByteArray → List ByteArray → Int → Int → Option R) (d_Room : Int) (d_Files : List (El kFile)) : Option R :=
  i_walRead.l1 (fun i i1 segments =>
    i_walRead.l2 (fun i2 i3 r r1 r2 l l1 => kk r l l1 r1 (0 : Int)) (fun i4 i5 i6 => kk i5 [] [] i6 i4) fuel (List.length segments : Int) (0 : Int) i i1 segments (0 : Int) (0 : Int) (0 : Int) [] []) fuel d_Files (List.length d_Files : Int) (0 : Int) (0 : Int) (0 : Int) ([] : List (El kFile))
theorem i_walRead.F_nat {R S : Type} (g : R → Option S) (kk : Int → List ByteArray → List ByteArray → Int → Int → Option R) (d_Room : Int) (d_Files : List (El kFile)) : i_walRead.F (fun y0 y1 y2 y3 y4 => (kk y0 y1 y2 y3 y4).bind g) d_Room d_Files = (i_walRead.F kk d_Room d_Files).bind g := by
  simp only [i_walRead.F, grd_bind, cnd_bind, bnd_bind, non_bind, ← i_walRead.l1_nat, ← i_walRead.l2_nat]
def i_walRead (d_Room : Int) (d_Files : List (El kFile)) : Option (Int × List ByteArray × List ByteArray × Int × Int) := i_walRead.F (fun y0 y1 y2 y3 y4 => some (y0, y1, y2, y3, y4)) d_Room d_Files
theorem i_walRead_nat {S : Type} (g : (Int × List ByteArray × List ByteArray × Int × Int) → Option S) (d_Room : Int) (d_Files : List (El kFile)) : i_walRead.F (fun y0 y1 y2 y3 y4 => g (y0, y1, y2, y3, y4)) d_Room d_Files = (i_walRead d_Room d_Files).bind g := i_walRead.F_nat g (fun y0 y1 y2 y3 y4 => some (y0, y1, y2, y3, y4)) d_Room d_Files
def i_walRead.out : (Int × List ByteArray × List ByteArray × Int × Int) → CRes := fun a => ⟨encL SV.enc [.agg [.int .i64, .own [] .str true, .own [] .str true, .int .i64], .one (.int .i64)] ((a.1, a.2.1, a.2.2.1, a.2.2.2.1, ()), a.2.2.2.2, ()), [encL SC.enc [] ()]⟩
def i_walRead.ps : List PS := [.val [none, some (kFile, false)]]
def i_walRead.sA : List SA := [.v (.agg [.int .i64, .slv [] kFile])]
def i_walRead.fi : FI := FIs i_walRead.sA (Int × List ByteArray × List ByteArray × Int × Int) (fun t => i_walRead t.1.1 t.1.2.1) i_walRead.out i_walRead.ps
def i_walRead.E : Env := ⟨tt, lkF [(115, i_segmentOf.fi), (116, i_walReader_segment.fi)], 54, 0, [], []⟩
def i_walRead.sh1 : SK := ⟨[.v (.one (.bptr 0 0)), .v (.one (.slo 1)), .v (.one (.slv [1] kFile)), .v (.one (.int .i64)), .v (.one (.int .i64))], [.box [.int .i64, .nil, .nil, .int .i64], .arr kFile [] true]⟩
def i_walRead.sh1e0 : SK := ⟨[.v (.one (.bptr 0 0)), .v (.one (.slo 1))], [.box [.int .i64, .nil, .nil, .int .i64], .arr kFile [] true]⟩
def i_walRead.ko1 : Ex → List CastAt × List Nat
  | .nrm => ([], [])
  | .ret => ([], [])
  | .ext i => cond (Nat.beq i 0) ([], [2, 4]) ([], [])
def i_walRead.G1 (n : Nat) (R : Type) (t : i_walRead.sh1.T) (K : Ex → Kp → Option R) : Option R := i_walRead.l1 (fun y0 y1 y2 => K (.ext 0) (SK.enc i_walRead.sh1e0 (((), (), ()), ((y0, (), (), y1, ()), y2, ())))) n t.1.2.2.1 t.1.2.2.2.1 t.1.2.2.2.2.1 t.2.1.1 t.2.1.2.2.2.1 t.2.2.1
def i_walRead.S1 : Sum := ⟨([], [2, 4, 13, 14, 15]), sumF i_walRead.sh1 (i_walRead.G1 fuel), i_walRead.ko1⟩
theorem i_walRead.ok1 (hE : EOk Tryz.prog (i_walRead.E)) : SumOk Tryz.prog i_walRead.E (cB (cR (cL (cR (cR (bodyOf Tryz.f66)))))) (i_walRead.S1) := by
  have hh : HintOk Tryz.prog i_walRead.E (cB (cB (cR (cL (cR (cR (bodyOf Tryz.f66))))))) (.a) := HintOk.n1 (Q := True) (by kernel_rfl) trivial
  have h := loopS (kin := ([], [2, 4, 13, 14, 15])) (kout := i_walRead.ko1) (sh := i_walRead.sh1) (F := i_walRead.G1) (ops_ok (hE.gv _)) (by kernel_rfl) hh (fun _ _ _ => rfl) (fun n R t K => by kernel_rfl) fuel
  exact HintOk.n1 (c := (cB (cR (cL (cR (cR (bodyOf Tryz.f66))))))) (h := .s (i_walRead.S1)) (P := Tryz.prog) (E := i_walRead.E) (by kernel_rfl) h
def i_walRead.sh2 : SK := ⟨[.v (.one (.bptr 0 0)), .v (.one (.slo 1)), .v (.one (.bptr 2 0)), .v (.one (.slo 1)), .v (.one (.int .i64)), .v (.one (.int .i64))], [.box [.int .i64, .nil, .nil, .int .i64], .arr kFile [] true, .box [.int .i64, .slo 3, .slo 4, .int .i64, .int .i64], .arr .str [] true, .arr .str [] true]⟩
def i_walRead.sh2e2 : SK := ⟨[.v (.one (.bptr 0 0)), .v (.one (.bptr 1 0))], [.box [.int .i64, .nil, .nil, .int .i64], .box [.int .i64, .slo 2, .slo 3, .int .i64, .int .i64], .arr .str [] true, .arr .str [] true]⟩
def i_walRead.sh2r : SK := ⟨[.v (.one (.bptr 0 0)), .v (.one (.int .i64))], [.box [.int .i64, .nil, .nil, .int .i64]]⟩
def i_walRead.ko2 : Ex → List CastAt × List Nat
  | .nrm => ([], [])
  | .ret => ([], [2, 3])
  | .ext i => cond (Nat.beq i 2) ([], [2, 7]) ([], [])
def i_walRead.G2 (n : Nat) (R : Type) (t : i_walRead.sh2.T) (K : Ex → Kp → Option R) : Option R := i_walRead.l2 (fun y0 y1 y2 y3 y4 y5 y6 => K (.ext 2) (SK.enc i_walRead.sh2e2 (((), (), ()), ((y0, (), (), y1, ()), (y2, (), (), y3, y4, ()), y5, y6, ())))) (fun y0 y1 y2 => K .ret (SK.enc i_walRead.sh2r (((), y0, ()), ((y1, (), (), y2, ()), ())))) n t.1.2.2.2.2.1 t.1.2.2.2.2.2.1 t.2.1.1 t.2.1.2.2.2.1 t.2.2.1 t.2.2.2.1.1 t.2.2.2.1.2.2.2.1 t.2.2.2.1.2.2.2.2.1 t.2.2.2.2.1 t.2.2.2.2.2.1
def i_walRead.S2 : Sum := ⟨([⟨7, true, 1, .own .str⟩, ⟨7, true, 2, .own .str⟩], [2, 4, 7, 30, 31, 32]), sumF i_walRead.sh2 (i_walRead.G2 fuel), i_walRead.ko2⟩
theorem i_walRead.ok2 (hE : EOk Tryz.prog (i_walRead.E)) : SumOk Tryz.prog i_walRead.E (cB (cR (cL (cR (cR (cR (cR (bodyOf Tryz.f66)))))))) (i_walRead.S2) := by
  have hh : HintOk Tryz.prog i_walRead.E (cB (cB (cR (cL (cR (cR (cR (cR (bodyOf Tryz.f66))))))))) (.a) := HintOk.n1 (Q := True) (by kernel_rfl) trivial
  have h := loopS (kin := ([⟨7, true, 1, .own .str⟩, ⟨7, true, 2, .own .str⟩], [2, 4, 7, 30, 31, 32])) (kout := i_walRead.ko2) (sh := i_walRead.sh2) (F := i_walRead.G2) (ops_ok (hE.gv _)) (by kernel_rfl) hh (fun _ _ _ => rfl) (fun n R t K => by kernel_rfl) fuel
  exact HintOk.n1 (c := (cB (cR (cL (cR (cR (cR (cR (bodyOf Tryz.f66))))))))) (h := .s (i_walRead.S2)) (P := Tryz.prog) (E := i_walRead.E) (by kernel_rfl) h
theorem i_walRead.hok (hE : EOk Tryz.prog (i_walRead.E)) : HintOk Tryz.prog i_walRead.E (bodyOf Tryz.f66) (.n (.a) (.n (.a) (.n (.n (.a) (.b (.s (i_walRead.S1)))) (.n (.a) (.n (.n (.a) (.b (.s (i_walRead.S2)))) (.a)))))) := HintOk.n1 (Q := (True) ∧ ((True) ∧ (((True) ∧ (SumOk Tryz.prog i_walRead.E (cB (cR (cL (cR (cR (bodyOf Tryz.f66)))))) (i_walRead.S1))) ∧ ((True) ∧ (((True) ∧ (SumOk Tryz.prog i_walRead.E (cB (cR (cL (cR (cR (cR (cR (bodyOf Tryz.f66)))))))) (i_walRead.S2))) ∧ (True)))))) (by kernel_rfl) ⟨trivial, ⟨trivial, ⟨⟨trivial, (i_walRead.ok1 hE)⟩, ⟨trivial, ⟨⟨trivial, (i_walRead.ok2 hE)⟩, trivial⟩⟩⟩⟩⟩
theorem i_walRead.hE : EOk Tryz.prog (i_walRead.E) := EOk.of ttOk (⟨i_segmentOf.fok, ⟨i_walReader_segment.fok, trivial⟩⟩)
theorem i_walRead.fok : FOk Tryz.prog 66 i_walRead.fi :=
  fokS (E := i_walRead.E) (wy := ⟨[[none, some (.str, true), some (.str, true), none], [none]], [[]], []⟩) (h := (fun gs => .n (.a) (.n (.a) (.n (.n (.a) (.b (.s (i_walRead.S1)))) (.n (.a) (.n (.n (.a) (.b (.s (i_walRead.S2)))) (.a))))))) (G := fun t g => i_walRead.F (fun y0 y1 y2 y3 y4 => g (y0, y1, y2, y3, y4)) t.1.1 t.1.2.1) (by kernel_rfl) i_walRead.hE Tryz.func66 (by kernel_rfl) rfl (Nat.le_refl _) (fun t => HintOk.n1 (by kernel_rfl) (i_walRead.hok i_walRead.hE)) (fun t g => i_walRead_nat g t.1.1 t.1.2.1) (fun t => by kernel_rfl)
/-! loop.example_g00220_impl.segmentName -/
def i_segmentName.F {R : Type} (kk : ByteArray → Option R) (n_ : Int) : Option R :=
  grd (gNz (10 : Int)) <|
  grd (gNz (10 : Int)) <|
  grd (gCat (⟨#[115]⟩ : ByteArray) (strL [IntKind.wrap .u8 (IntKind.wrap .i64 ((48 : Int) + (IntKind.wrap .i64 (Int.tdiv n_ (10 : Int))))), IntKind.wrap .u8 (IntKind.wrap .i64 ((48 : Int) + (Int.tmod n_ (10 : Int))))])) <|
  kk ((⟨#[115]⟩ : ByteArray) ++ (strL [IntKind.wrap .u8 (IntKind.wrap .i64 ((48 : Int) + (IntKind.wrap .i64 (Int.tdiv n_ (10 : Int))))), IntKind.wrap .u8 (IntKind.wrap .i64 ((48 : Int) + (Int.tmod n_ (10 : Int))))]))
theorem i_segmentName.F_nat {R S : Type} (g : R → Option S) (kk : ByteArray → Option R) (n_ : Int) : i_segmentName.F (fun y0 => (kk y0).bind g) n_ = (i_segmentName.F kk n_).bind g := by
  simp only [i_segmentName.F, grd_bind, cnd_bind, bnd_bind, non_bind]
def i_segmentName (n_ : Int) : Option ByteArray := i_segmentName.F (fun y0 => some y0) n_
theorem i_segmentName_nat {S : Type} (g : ByteArray → Option S) (n_ : Int) : i_segmentName.F (fun y0 => g y0) n_ = (i_segmentName n_).bind g := i_segmentName.F_nat g (fun y0 => some y0) n_
def i_segmentName.out : ByteArray → CRes := fun a => ⟨encL SV.enc [.one (.str)] (a, ()), [encL SC.enc [] ()]⟩
def i_segmentName.ps : List PS := [.val [none]]
def i_segmentName.sA : List SA := [.v (.one (.int .i64))]
def i_segmentName.fi : FI := FIs i_segmentName.sA (ByteArray) (fun t => i_segmentName t.1) i_segmentName.out i_segmentName.ps
def i_segmentName.E : Env := ⟨tt, lkF [], 14, 0, [], []⟩
theorem i_segmentName.hok (hE : EOk Tryz.prog (i_segmentName.E)) : HintOk Tryz.prog i_segmentName.E (bodyOf Tryz.f68) (.a) := HintOk.n1 (Q := True) (by kernel_rfl) trivial
theorem i_segmentName.hE : EOk Tryz.prog (i_segmentName.E) := EOk.of ttOk (trivial)
theorem i_segmentName.fok : FOk Tryz.prog 68 i_segmentName.fi :=
  fokS (E := i_segmentName.E) (wy := ⟨[[none]], [[]], []⟩) (h := (fun gs => .a)) (G := fun t g => i_segmentName.F (fun y0 => g y0) t.1) (by kernel_rfl) i_segmentName.hE Tryz.func68 (by kernel_rfl) rfl (Nat.le_refl _) (fun t => HintOk.n1 (by kernel_rfl) (i_segmentName.hok i_segmentName.hE)) (fun t g => i_segmentName_nat g t.1) (fun t => by kernel_rfl)
/-! _loop.example_g00220_impl.Wal_.lastName -/
def i_Wal_lastName.F {R : Type} (kk : ByteArray → Option R) (w_First : Int) (w_Records : List ByteArray) (w_Names : List ByteArray) (w_Torn : Int) : Option R :=
  cond ((List.length w_Names : Int) == (0 : Int)) (kk ByteArray.empty) (
    grd (gIx (IntKind.wrap .i64 ((List.length w_Names : Int) - (1 : Int))) (List.length w_Names)) <|
    kk (rdE (.str : Kd) w_Names (Int.toNat (IntKind.wrap .i64 ((List.length w_Names : Int) - (1 : Int))))))
theorem i_Wal_lastName.F_nat {R S : Type} (g : R → Option S) (kk : ByteArray → Option R) (w_First : Int) (w_Records : List ByteArray) (w_Names : List ByteArray) (w_Torn : Int) : i_Wal_lastName.F (fun y0 => (kk y0).bind g) w_First w_Records w_Names w_Torn = (i_Wal_lastName.F kk w_First w_Records w_Names w_Torn).bind g := by
  simp only [i_Wal_lastName.F, grd_bind, cnd_bind, bnd_bind, non_bind]
def i_Wal_lastName (w_First : Int) (w_Records : List ByteArray) (w_Names : List ByteArray) (w_Torn : Int) : Option ByteArray := i_Wal_lastName.F (fun y0 => some y0) w_First w_Records w_Names w_Torn
theorem i_Wal_lastName_nat {S : Type} (g : ByteArray → Option S) (w_First : Int) (w_Records : List ByteArray) (w_Names : List ByteArray) (w_Torn : Int) : i_Wal_lastName.F (fun y0 => g y0) w_First w_Records w_Names w_Torn = (i_Wal_lastName w_First w_Records w_Names w_Torn).bind g := i_Wal_lastName.F_nat g (fun y0 => some y0) w_First w_Records w_Names w_Torn
def i_Wal_lastName.out : ByteArray → CRes := fun a => ⟨encL SV.enc [.one (.str)] (a, ()), [encL SC.enc [] ()]⟩
def i_Wal_lastName.ps : List PS := [.val [none, some (.str, false), some (.str, false), none]]
def i_Wal_lastName.sA : List SA := [.v (.agg [.int .i64, .slv [] .str, .slv [] .str, .int .i64])]
def i_Wal_lastName.fi : FI := FIs i_Wal_lastName.sA (ByteArray) (fun t => i_Wal_lastName t.1.1 t.1.2.1 t.1.2.2.1 t.1.2.2.2.1) i_Wal_lastName.out i_Wal_lastName.ps
def i_Wal_lastName.E : Env := ⟨tt, lkF [], 15, 0, [], []⟩
theorem i_Wal_lastName.hok (hE : EOk Tryz.prog (i_Wal_lastName.E)) : HintOk Tryz.prog i_Wal_lastName.E (bodyOf Tryz.f75) (.a) := HintOk.n1 (Q := True) (by kernel_rfl) trivial
theorem i_Wal_lastName.hE : EOk Tryz.prog (i_Wal_lastName.E) := EOk.of ttOk (trivial)
theorem i_Wal_lastName.fok : FOk Tryz.prog 75 i_Wal_lastName.fi :=
  fokS (E := i_Wal_lastName.E) (wy := ⟨[[none]], [[]], []⟩) (h := (fun gs => .a)) (G := fun t g => i_Wal_lastName.F (fun y0 => g y0) t.1.1 t.1.2.1 t.1.2.2.1 t.1.2.2.2.1) (by kernel_rfl) i_Wal_lastName.hE Tryz.func75 (by kernel_rfl) rfl (Nat.le_refl _) (fun t => HintOk.n1 (by kernel_rfl) (i_Wal_lastName.hok i_Wal_lastName.hE)) (fun t g => i_Wal_lastName_nat g t.1.1 t.1.2.1 t.1.2.2.1 t.1.2.2.2.1) (fun t => by kernel_rfl)
/-! loop.example_g00220_impl.plan -/
def i_plan.F {R : Type} (kk : List (El kFileAct) → Option R) (d_Room : Int) (d_Files : List (El kFile)) (w_First : Int) (w_Records : List ByteArray) (w_Names : List ByteArray) (w_Torn : Int) (data : ByteArray) : Option R :=
  (i_frame data).bind fun r =>
  (i_Wal_lastName w_First w_Records w_Names w_Torn).bind fun r1 =>
  (i_Wal_next w_First w_Records w_Names w_Torn).bind fun r2 =>
  (i_number r2 (4 : Int)).bind fun r3 =>
  (i_frame r3).bind fun r4 =>
  grd (gCat r4 r) <|
  cond (sEq r1 ByteArray.empty) (
    (i_segmentName (1 : Int)).bind fun r5 =>
    kk ([((1 : Int), ((0 : Int), (r5, (ByteArray.empty, (r4 ++ r, [])))))])) (
    (i_Disk_fileAt d_Room d_Files r1).bind fun r6 =>
    grd (gIx r6.1 (List.length d_Files)) <|
    cond ((ByteArray.size (rdE kFile d_Files (Int.toNat r6.1)).2.1 : Int) == (0 : Int)) (kk ([((1 : Int), ((0 : Int), (r1, (ByteArray.empty, (r4 ++ r, [])))))])) (
      cond (decide ((IntKind.wrap .i64 ((ByteArray.size (rdE kFile d_Files (Int.toNat r6.1)).2.1 : Int) + (ByteArray.size r : Int))) > (160 : Int))) (
        (i_segmentOf r1).bind fun r7 =>
        (i_segmentName (IntKind.wrap .i64 (r7 + (1 : Int)))).bind fun r8 =>
        kk ([((2 : Int), ((0 : Int), (r1, (ByteArray.empty, (ByteArray.empty, []))))), ((1 : Int), ((0 : Int), (r8, (ByteArray.empty, (r4 ++ r, [])))))])) (kk ([((1 : Int), ((0 : Int), (r1, (ByteArray.empty, (r, [])))))]))))
theorem i_plan.F_nat {R S : Type} (g : R → Option S) (kk : List (El kFileAct) → Option R) (d_Room : Int) (d_Files : List (El kFile)) (w_First : Int) (w_Records : List ByteArray) (w_Names : List ByteArray) (w_Torn : Int) (data : ByteArray) : i_plan.F (fun y0 => (kk y0).bind g) d_Room d_Files w_First w_Records w_Names w_Torn data = (i_plan.F kk d_Room d_Files w_First w_Records w_Names w_Torn data).bind g := by
  simp only [i_plan.F, grd_bind, cnd_bind, bnd_bind, non_bind]
def i_plan (d_Room : Int) (d_Files : List (El kFile)) (w_First : Int) (w_Records : List ByteArray) (w_Names : List ByteArray) (w_Torn : Int) (data : ByteArray) : Option (List (El kFileAct)) := i_plan.F (fun y0 => some y0) d_Room d_Files w_First w_Records w_Names w_Torn data
theorem i_plan_nat {S : Type} (g : (List (El kFileAct)) → Option S) (d_Room : Int) (d_Files : List (El kFile)) (w_First : Int) (w_Records : List ByteArray) (w_Names : List ByteArray) (w_Torn : Int) (data : ByteArray) : i_plan.F (fun y0 => g y0) d_Room d_Files w_First w_Records w_Names w_Torn data = (i_plan d_Room d_Files w_First w_Records w_Names w_Torn data).bind g := i_plan.F_nat g (fun y0 => some y0) d_Room d_Files w_First w_Records w_Names w_Torn data
def i_plan.out : (List (El kFileAct)) → CRes := fun a => ⟨encL SV.enc [.one (.own [] kFileAct true)] (a, ()), [encL SC.enc [] (), encL SC.enc [] (), encL SC.enc [] ()]⟩
def i_plan.ps : List PS := [.val [none, some (kFile, false)], .val [none, some (.str, false), some (.str, false), none], .val [none]]
def i_plan.sA : List SA := [.v (.agg [.int .i64, .slv [] kFile]), .v (.agg [.int .i64, .slv [] .str, .slv [] .str, .int .i64]), .v (.one (.str))]
def i_plan.fi : FI := FIs i_plan.sA (List (El kFileAct)) (fun t => i_plan t.1.1 t.1.2.1 t.2.1.1 t.2.1.2.1 t.2.1.2.2.1 t.2.1.2.2.2.1 t.2.2.1) i_plan.out i_plan.ps
def i_plan.E : Env := ⟨tt, lkF [(68, i_segmentName.fi), (75, i_Wal_lastName.fi), (76, i_Disk_fileAt.fi), (115, i_segmentOf.fi), (137, i_number.fi), (153, i_Wal_next.fi), (155, i_frame.fi)], 68, 0, [], []⟩
theorem i_plan.hok (hE : EOk Tryz.prog (i_plan.E)) : HintOk Tryz.prog i_plan.E (bodyOf Tryz.f119) (.a) := HintOk.n1 (Q := True) (by kernel_rfl) trivial
theorem i_plan.hE : EOk Tryz.prog (i_plan.E) := EOk.of ttOk (⟨i_segmentName.fok, ⟨i_Wal_lastName.fok, ⟨i_Disk_fileAt.fok, ⟨i_segmentOf.fok, ⟨i_number.fok, ⟨i_Wal_next.fok, ⟨i_frame.fok, trivial⟩⟩⟩⟩⟩⟩⟩)
theorem i_plan.fok : FOk Tryz.prog 119 i_plan.fi :=
  fokS (E := i_plan.E) (wy := ⟨[[some (kFileAct, true)]], [[], [], []], []⟩) (h := (fun gs => .a)) (G := fun t g => i_plan.F (fun y0 => g y0) t.1.1 t.1.2.1 t.2.1.1 t.2.1.2.1 t.2.1.2.2.1 t.2.1.2.2.2.1 t.2.2.1) (by kernel_rfl) i_plan.hE Tryz.func119 (by kernel_rfl) rfl (Nat.le_refl _) (fun t => HintOk.n1 (by kernel_rfl) (i_plan.hok i_plan.hE)) (fun t g => i_plan_nat g t.1.1 t.1.2.1 t.2.1.1 t.2.1.2.1 t.2.1.2.2.1 t.2.1.2.2.2.1 t.2.2.1) (fun t => by kernel_rfl)
/-! loop.example_g00220_impl.walPlan -/
def i_walPlan.F {R : Type} (kk : List (El kFileAct) → Int → Option R) (d_Room : Int) (d_Files : List (El kFile)) (data : ByteArray) : Option R :=
  (i_within (ByteArray.size data : Int) (1 : Int) (110 : Int)).bind fun r =>
  cond (!r) (kk [] (4 : Int)) (
    (i_walRead d_Room d_Files).bind fun r1 =>
    cond (r1.2.2.2.2 != (0 : Int)) (kk [] r1.2.2.2.2) (
      cond (decide (r1.2.2.2.1 > (0 : Int))) (kk [] (16 : Int)) (
        cond (decide ((List.length r1.2.1 : Int) ≥ (60 : Int))) (kk [] (6 : Int)) (
          (i_Wal_lastName r1.1 r1.2.1 r1.2.2.1 r1.2.2.2.1).bind fun r2 =>
          (i_segmentName (99 : Int)).bind fun r3 =>
          cond (sEq r2 r3) (kk [] (6 : Int)) (
            (i_plan d_Room d_Files r1.1 r1.2.1 r1.2.2.1 r1.2.2.2.1 data).bind fun r4 =>
            kk r4 (0 : Int))))))
theorem i_walPlan.F_nat {R S : Type} (g : R → Option S) (kk : List (El kFileAct) → Int → Option R) (d_Room : Int) (d_Files : List (El kFile)) (data : ByteArray) : i_walPlan.F (fun y0 y1 => (kk y0 y1).bind g) d_Room d_Files data = (i_walPlan.F kk d_Room d_Files data).bind g := by
  simp only [i_walPlan.F, grd_bind, cnd_bind, bnd_bind, non_bind]
def i_walPlan (d_Room : Int) (d_Files : List (El kFile)) (data : ByteArray) : Option (List (El kFileAct) × Int) := i_walPlan.F (fun y0 y1 => some (y0, y1)) d_Room d_Files data
theorem i_walPlan_nat {S : Type} (g : (List (El kFileAct) × Int) → Option S) (d_Room : Int) (d_Files : List (El kFile)) (data : ByteArray) : i_walPlan.F (fun y0 y1 => g (y0, y1)) d_Room d_Files data = (i_walPlan d_Room d_Files data).bind g := i_walPlan.F_nat g (fun y0 y1 => some (y0, y1)) d_Room d_Files data
def i_walPlan.out : (List (El kFileAct) × Int) → CRes := fun a => ⟨encL SV.enc [.one (.own [] kFileAct true), .one (.int .i64)] (a.1, a.2, ()), [encL SC.enc [] (), encL SC.enc [] ()]⟩
def i_walPlan.ps : List PS := [.val [none, some (kFile, false)], .val [none]]
def i_walPlan.sA : List SA := [.v (.agg [.int .i64, .slv [] kFile]), .v (.one (.str))]
def i_walPlan.fi : FI := FIs i_walPlan.sA (List (El kFileAct) × Int) (fun t => i_walPlan t.1.1 t.1.2.1 t.2.1) i_walPlan.out i_walPlan.ps
def i_walPlan.E : Env := ⟨tt, lkF [(66, i_walRead.fi), (67, i_within.fi), (68, i_segmentName.fi), (75, i_Wal_lastName.fi), (119, i_plan.fi)], 40, 0, [], []⟩
theorem i_walPlan.hok (hE : EOk Tryz.prog (i_walPlan.E)) : HintOk Tryz.prog i_walPlan.E (bodyOf Tryz.f70) (.a) := HintOk.n1 (Q := True) (by kernel_rfl) trivial
theorem i_walPlan.hE : EOk Tryz.prog (i_walPlan.E) := EOk.of ttOk (⟨i_walRead.fok, ⟨i_within.fok, ⟨i_segmentName.fok, ⟨i_Wal_lastName.fok, ⟨i_plan.fok, trivial⟩⟩⟩⟩⟩)
theorem i_walPlan.fok : FOk Tryz.prog 70 i_walPlan.fi :=
  fokS (E := i_walPlan.E) (wy := ⟨[[some (kFileAct, true)], [none]], [[], []], []⟩) (h := (fun gs => .a)) (G := fun t g => i_walPlan.F (fun y0 y1 => g (y0, y1)) t.1.1 t.1.2.1 t.2.1) (by kernel_rfl) i_walPlan.hE Tryz.func70 (by kernel_rfl) rfl (Nat.le_refl _) (fun t => HintOk.n1 (by kernel_rfl) (i_walPlan.hok i_walPlan.hE)) (fun t g => i_walPlan_nat g t.1.1 t.1.2.1 t.2.1) (fun t => by kernel_rfl)
/-! loop.example_g00220_impl.walAppend -/
def i_walAppend.l1 {R : Type} (kke0 : Int → Int → List (El kFile) → Option R) (kkr : Int → Int → Option R) : Nat → Int → Int → Int → Int → List (El kFileAct) → List (El kFile) → Option R
  | 0, _, _, _, _, _, _ => none
  | n + 1, i, i1, i2, out, l, l1 =>
    cond (decide (i1 < i)) (
      grd (gIx i1 (List.length l)) <|
      (i_Disk_do out l1 ((rdE kFileAct l (Int.toNat i1)).1) ((rdE kFileAct l (Int.toNat i1)).2.1) ((rdE kFileAct l (Int.toNat i1)).2.2.1) ((rdE kFileAct l (Int.toNat i1)).2.2.2.1) ((rdE kFileAct l (Int.toNat i1)).2.2.2.2.1) ((rdE kFileAct l (Int.toNat i1)).2.2.2.2.2)).bind fun r =>
      cond (r.1 != (0 : Int)) (kkr r.1 (0 : Int)) (i_walAppend.l1 kke0 kkr n i (IntKind.wrap .i64 (i1 + (1 : Int))) i2 r.2.1 l r.2.2)) (kke0 i2 out l1)
theorem i_walAppend.l1_nat {R S : Type} (g : R → Option S) (kke0 : Int → Int → List (El kFile) → Option R) (kkr : Int → Int → Option R) : ∀ (n : Nat) (i : Int) (i1 : Int) (i2 : Int) (out : Int) (l : List (El kFileAct)) (l1 : List (El kFile)), i_walAppend.l1 (fun y0 y1 y2 => (kke0 y0 y1 y2).bind g) (fun y0 y1 => (kkr y0 y1).bind g) n i i1 i2 out l l1 = (i_walAppend.l1 kke0 kkr n i i1 i2 out l l1).bind g := by
  intro n
  induction n with
  | zero => intros; rfl
  | succ n ih => intros; simp only [i_walAppend.l1, grd_bind, cnd_bind, bnd_bind, non_bind, ih]
def i_walAppend.F {R : Type} (kk : Int → List (El kFile) → Int → Option R) (d_Room : Int) (d_Files : List (El kFile)) (data : ByteArray) : Option R :=
  (i_walPlan d_Room d_Files data).bind fun r =>
  cond (r.2 != (0 : Int)) (kk (0 : Int) [] r.2) (
    (i_copyDisk d_Room d_Files).bind fun r1 =>
    i_walAppend.l1 (fun i out l => kk out l (0 : Int)) (fun i1 i2 => kk i2 [] i1) fuel (List.length r.1 : Int) (0 : Int) (0 : Int) r1.1 r.1 r1.2)
theorem i_walAppend.F_nat {R S : Type} (g : R → Option S) (kk : Int → List (El kFile) → Int → Option R) (d_Room : Int) (d_Files : List (El kFile)) (data : ByteArray) : i_walAppend.F (fun y0 y1 y2 => (kk y0 y1 y2).bind g) d_Room d_Files data = (i_walAppend.F kk d_Room d_Files data).bind g := by
  simp only [i_walAppend.F, grd_bind, cnd_bind, bnd_bind, non_bind, ← i_walAppend.l1_nat]
def i_walAppend (d_Room : Int) (d_Files : List (El kFile)) (data : ByteArray) : Option (Int × List (El kFile) × Int) := i_walAppend.F (fun y0 y1 y2 => some (y0, y1, y2)) d_Room d_Files data
theorem i_walAppend_nat {S : Type} (g : (Int × List (El kFile) × Int) → Option S) (d_Room : Int) (d_Files : List (El kFile)) (data : ByteArray) : i_walAppend.F (fun y0 y1 y2 => g (y0, y1, y2)) d_Room d_Files data = (i_walAppend d_Room d_Files data).bind g := i_walAppend.F_nat g (fun y0 y1 y2 => some (y0, y1, y2)) d_Room d_Files data
def i_walAppend.out : (Int × List (El kFile) × Int) → CRes := fun a => ⟨encL SV.enc [.agg [.int .i64, .own [] kFile true], .one (.int .i64)] ((a.1, a.2.1, ()), a.2.2, ()), [encL SC.enc [] (), encL SC.enc [] ()]⟩
def i_walAppend.ps : List PS := [.val [none, some (kFile, false)], .val [none]]
def i_walAppend.sA : List SA := [.v (.agg [.int .i64, .slv [] kFile]), .v (.one (.str))]
def i_walAppend.fi : FI := FIs i_walAppend.sA (Int × List (El kFile) × Int) (fun t => i_walAppend t.1.1 t.1.2.1 t.2.1) i_walAppend.out i_walAppend.ps
def i_walAppend.E : Env := ⟨tt, lkF [(53, i_copyDisk.fi), (55, i_Disk_do.fi), (70, i_walPlan.fi)], 38, 0, [], []⟩
def i_walAppend.sh1 : SK := ⟨[.v (.one (.bptr 0 0)), .v (.one (.bptr 1 0)), .v (.one (.slo 2)), .v (.one (.int .i64)), .v (.one (.int .i64))], [.box [.int .i64, .nil], .box [.int .i64, .slo 3], .arr kFileAct [] true, .arr kFile [] true]⟩
def i_walAppend.sh1e0 : SK := ⟨[.v (.one (.bptr 0 0)), .v (.one (.bptr 1 0))], [.box [.int .i64, .nil], .box [.int .i64, .slo 2], .arr kFile [] true]⟩
def i_walAppend.sh1r : SK := ⟨[.v (.one (.bptr 0 0)), .v (.one (.int .i64))], [.box [.int .i64, .nil]]⟩
def i_walAppend.ko1 : Ex → List CastAt × List Nat
  | .nrm => ([], [])
  | .ret => ([], [4, 5])
  | .ext i => cond (Nat.beq i 0) ([], [4, 8]) ([], [])
def i_walAppend.G1 (n : Nat) (R : Type) (t : i_walAppend.sh1.T) (K : Ex → Kp → Option R) : Option R := i_walAppend.l1 (fun y0 y1 y2 => K (.ext 0) (SK.enc i_walAppend.sh1e0 (((), (), ()), ((y0, (), ()), (y1, (), ()), y2, ())))) (fun y0 y1 => K .ret (SK.enc i_walAppend.sh1r (((), y0, ()), ((y1, (), ()), ())))) n t.1.2.2.2.1 t.1.2.2.2.2.1 t.2.1.1 t.2.2.1.1 t.2.2.2.1 t.2.2.2.2.1
def i_walAppend.S1 : Sum := ⟨([], [4, 8, 24, 25, 26]), sumF i_walAppend.sh1 (i_walAppend.G1 fuel), i_walAppend.ko1⟩
theorem i_walAppend.ok1 (hE : EOk Tryz.prog (i_walAppend.E)) : SumOk Tryz.prog i_walAppend.E (cB (cR (cL (cR (cR (cR (cR (bodyOf Tryz.f71)))))))) (i_walAppend.S1) := by
  have hh : HintOk Tryz.prog i_walAppend.E (cB (cB (cR (cL (cR (cR (cR (cR (bodyOf Tryz.f71))))))))) (.a) := HintOk.n1 (Q := True) (by kernel_rfl) trivial
  have h := loopS (kin := ([], [4, 8, 24, 25, 26])) (kout := i_walAppend.ko1) (sh := i_walAppend.sh1) (F := i_walAppend.G1) (ops_ok (hE.gv _)) (by kernel_rfl) hh (fun _ _ _ => rfl) (fun n R t K => by kernel_rfl) fuel
  exact HintOk.n1 (c := (cB (cR (cL (cR (cR (cR (cR (bodyOf Tryz.f71))))))))) (h := .s (i_walAppend.S1)) (P := Tryz.prog) (E := i_walAppend.E) (by kernel_rfl) h
theorem i_walAppend.hok (hE : EOk Tryz.prog (i_walAppend.E)) : HintOk Tryz.prog i_walAppend.E (bodyOf Tryz.f71) (.n (.a) (.n (.a) (.n (.a) (.n (.a) (.n (.n (.a) (.b (.s (i_walAppend.S1)))) (.a)))))) := HintOk.n1 (Q := (True) ∧ ((True) ∧ ((True) ∧ ((True) ∧ (((True) ∧ (SumOk Tryz.prog i_walAppend.E (cB (cR (cL (cR (cR (cR (cR (bodyOf Tryz.f71)))))))) (i_walAppend.S1))) ∧ (True)))))) (by kernel_rfl) ⟨trivial, ⟨trivial, ⟨trivial, ⟨trivial, ⟨⟨trivial, (i_walAppend.ok1 hE)⟩, trivial⟩⟩⟩⟩⟩
theorem i_walAppend.hE : EOk Tryz.prog (i_walAppend.E) := EOk.of ttOk (⟨i_copyDisk.fok, ⟨i_Disk_do.fok, ⟨i_walPlan.fok, trivial⟩⟩⟩)
theorem i_walAppend.fok : FOk Tryz.prog 71 i_walAppend.fi :=
  fokS (E := i_walAppend.E) (wy := ⟨[[none, some (kFile, true)], [none]], [[], []], []⟩) (h := (fun gs => .n (.a) (.n (.a) (.n (.a) (.n (.a) (.n (.n (.a) (.b (.s (i_walAppend.S1)))) (.a))))))) (G := fun t g => i_walAppend.F (fun y0 y1 y2 => g (y0, y1, y2)) t.1.1 t.1.2.1 t.2.1) (by kernel_rfl) i_walAppend.hE Tryz.func71 (by kernel_rfl) rfl (Nat.le_refl _) (fun t => HintOk.n1 (by kernel_rfl) (i_walAppend.hok i_walAppend.hE)) (fun t g => i_walAppend_nat g t.1.1 t.1.2.1 t.2.1) (fun t => by kernel_rfl)
/-! loop.example_g00220_impl.WalAppend -/
def i_WalAppend.F {R : Type} (kk : Int → List (El kFile) → Int → Option R) (d_Room : Int) (d_Files : List (El kFile)) (data : ByteArray) : Option R :=
  (i_isText [data]).bind fun r =>
  cond (!r) (kk (0 : Int) [] (2 : Int)) (
    (i_DiskOK d_Room d_Files).bind fun r1 =>
    cond (!r1) (kk (0 : Int) [] (1 : Int)) (
      (i_walAppend d_Room d_Files data).bind fun r2 =>
      kk r2.1 r2.2.1 r2.2.2))
theorem i_WalAppend.F_nat {R S : Type} (g : R → Option S) (kk : Int → List (El kFile) → Int → Option R) (d_Room : Int) (d_Files : List (El kFile)) (data : ByteArray) : i_WalAppend.F (fun y0 y1 y2 => (kk y0 y1 y2).bind g) d_Room d_Files data = (i_WalAppend.F kk d_Room d_Files data).bind g := by
  simp only [i_WalAppend.F, grd_bind, cnd_bind, bnd_bind, non_bind]
def i_WalAppend (d_Room : Int) (d_Files : List (El kFile)) (data : ByteArray) : Option (Int × List (El kFile) × Int) := i_WalAppend.F (fun y0 y1 y2 => some (y0, y1, y2)) d_Room d_Files data
theorem i_WalAppend_nat {S : Type} (g : (Int × List (El kFile) × Int) → Option S) (d_Room : Int) (d_Files : List (El kFile)) (data : ByteArray) : i_WalAppend.F (fun y0 y1 y2 => g (y0, y1, y2)) d_Room d_Files data = (i_WalAppend d_Room d_Files data).bind g := i_WalAppend.F_nat g (fun y0 y1 y2 => some (y0, y1, y2)) d_Room d_Files data
def i_WalAppend.out : (Int × List (El kFile) × Int) → CRes := fun a => ⟨encL SV.enc [.agg [.int .i64, .own [] kFile true], .one (.int .i64)] ((a.1, a.2.1, ()), a.2.2, ()), [encL SC.enc [] (), encL SC.enc [] ()]⟩
def i_WalAppend.ps : List PS := [.val [none, some (kFile, false)], .val [none]]
def i_WalAppend.sA : List SA := [.v (.agg [.int .i64, .slv [] kFile]), .v (.one (.str))]
def i_WalAppend.fi : FI := FIs i_WalAppend.sA (Int × List (El kFile) × Int) (fun t => i_WalAppend t.1.1 t.1.2.1 t.2.1) i_WalAppend.out i_WalAppend.ps
def i_WalAppend.E : Env := ⟨tt, lkF [(65, i_DiskOK.fi), (69, i_isText.fi), (71, i_walAppend.fi)], 22, 0, [], []⟩
theorem i_WalAppend.hok (hE : EOk Tryz.prog (i_WalAppend.E)) : HintOk Tryz.prog i_WalAppend.E (bodyOf Tryz.f27) (.a) := HintOk.n1 (Q := True) (by kernel_rfl) trivial
theorem i_WalAppend.hE : EOk Tryz.prog (i_WalAppend.E) := EOk.of ttOk (⟨i_DiskOK.fok, ⟨i_isText.fok, ⟨i_walAppend.fok, trivial⟩⟩⟩)
theorem i_WalAppend.fok : FOk Tryz.prog 27 i_WalAppend.fi :=
  fokS (E := i_WalAppend.E) (wy := ⟨[[none, some (kFile, true)], [none]], [[], []], []⟩) (h := (fun gs => .a)) (G := fun t g => i_WalAppend.F (fun y0 y1 y2 => g (y0, y1, y2)) t.1.1 t.1.2.1 t.2.1) (by kernel_rfl) i_WalAppend.hE Tryz.func27 (by kernel_rfl) rfl (Nat.le_refl _) (fun t => HintOk.n1 (by kernel_rfl) (i_WalAppend.hok i_WalAppend.hE)) (fun t g => i_WalAppend_nat g t.1.1 t.1.2.1 t.2.1) (fun t => by kernel_rfl)
/-! loop.example_g00220_laws.FnExactWalAppend -/
def l_FnExactWalAppend.F {R : Type} (kk : Bool → Option R) (aD_Room : Int) (aD_Files : List (El kFile)) (aData : ByteArray) : Option R :=
  cond (decide ((ByteArray.size aData : Int) > (1048576 : Int))) (kk true) (
    (l_szDisk aD_Room aD_Files (1048576 : Int)).bind fun r =>
    cond (decide (r < (0 : Int))) (kk true) (
      (l_toDisk aD_Room aD_Files).bind fun r1 =>
      (s_WalAppend r1.1 r1.2 aData).bind fun r2 =>
      (l_toDisk aD_Room aD_Files).bind fun r3 =>
      (i_WalAppend r3.1 r3.2 aData).bind fun r4 =>
      (l_eqDisk r4.1 r4.2.1 r2.1 r2.2.1).bind fun r5 =>
      cond (!r5) (kk false) (
        cond (r4.2.2 != r2.2.2) (kk false) (
          (l_toDisk aD_Room aD_Files).bind fun r6 =>
          (l_eqDisk r3.1 r3.2 r6.1 r6.2).bind fun r7 =>
          cond (!r7) (kk false) (
            (l_markDisk r3.1 r3.2 (1 : Int)).bind fun r8 =>
            cond (decide (r8.1 < (0 : Int))) (kk false) (
              (l_eqDisk r4.1 r4.2.1 r2.1 r2.2.1).bind fun r9 =>
              cond (!r9) (kk false) (
                cond (r4.2.2 != r2.2.2) (kk false) (
                  (l_markDisk r4.1 r4.2.1 (1 : Int)).bind fun r10 =>
                  (l_heldDisk r4.1 r10.2 (1 : Int)).bind fun r11 =>
                  cond (decide (r11 < (0 : Int))) (kk false) (
                    cond (r11 != r10.1) (kk false) (
                      (l_toDisk aD_Room aD_Files).bind fun r12 =>
                      (i_WalAppend r12.1 r12.2 aData).bind fun r13 =>
                      (l_eqDisk r13.1 r13.2.1 r2.1 r2.2.1).bind fun r14 =>
                      cond (!r14) (kk false) (
                        cond (r13.2.2 != r2.2.2) (kk false) (
                          (l_heldDisk r4.1 r10.2 (1 : Int)).bind fun r15 =>
                          cond (decide (r15 < (0 : Int))) (kk false) (cond (r15 != r10.1) (kk false) (kk true))))))))))))))
theorem l_FnExactWalAppend.F_nat {R S : Type} (g : R → Option S) (kk : Bool → Option R) (aD_Room : Int) (aD_Files : List (El kFile)) (aData : ByteArray) : l_FnExactWalAppend.F (fun y0 => (kk y0).bind g) aD_Room aD_Files aData = (l_FnExactWalAppend.F kk aD_Room aD_Files aData).bind g := by
  simp only [l_FnExactWalAppend.F, grd_bind, cnd_bind, bnd_bind, non_bind]
def l_FnExactWalAppend (aD_Room : Int) (aD_Files : List (El kFile)) (aData : ByteArray) : Option Bool := l_FnExactWalAppend.F (fun y0 => some y0) aD_Room aD_Files aData
theorem l_FnExactWalAppend_nat {S : Type} (g : Bool → Option S) (aD_Room : Int) (aD_Files : List (El kFile)) (aData : ByteArray) : l_FnExactWalAppend.F (fun y0 => g y0) aD_Room aD_Files aData = (l_FnExactWalAppend aD_Room aD_Files aData).bind g := l_FnExactWalAppend.F_nat g (fun y0 => some y0) aD_Room aD_Files aData
def l_FnExactWalAppend.out : Bool → CRes := fun a => ⟨encL SV.enc [.one (.bool)] (a, ()), [encL SC.enc [] (), encL SC.enc [] ()]⟩
def l_FnExactWalAppend.ps : List PS := [.val [none, some (kFile, false)], .val [none]]
def l_FnExactWalAppend.sA : List SA := [.v (.agg [.int .i64, .slv [] kFile]), .v (.one (.str))]
def l_FnExactWalAppend.fi : FI := FIs l_FnExactWalAppend.sA (Bool) (fun t => l_FnExactWalAppend t.1.1 t.1.2.1 t.2.1) l_FnExactWalAppend.out l_FnExactWalAppend.ps
def l_FnExactWalAppend.E : Env := ⟨tt, lkF [(10, l_szDisk.fi), (12, l_toDisk.fi), (14, l_eqDisk.fi), (15, l_markDisk.fi), (16, l_heldDisk.fi), (19, s_WalAppend.fi), (27, i_WalAppend.fi)], 104, 0, [], []⟩
theorem l_FnExactWalAppend.hok (hE : EOk Tryz.prog (l_FnExactWalAppend.E)) : HintOk Tryz.prog l_FnExactWalAppend.E (bodyOf Tryz.f8) (.a) := HintOk.n1 (Q := True) (by kernel_rfl) trivial
theorem l_FnExactWalAppend.hE : EOk Tryz.prog (l_FnExactWalAppend.E) := EOk.of ttOk (⟨l_szDisk.fok, ⟨l_toDisk.fok, ⟨l_eqDisk.fok, ⟨l_markDisk.fok, ⟨l_heldDisk.fok, ⟨s_WalAppend.fok, ⟨i_WalAppend.fok, trivial⟩⟩⟩⟩⟩⟩⟩)
theorem l_FnExactWalAppend.fok : FOk Tryz.prog 8 l_FnExactWalAppend.fi :=
  fokS (E := l_FnExactWalAppend.E) (wy := ⟨[[none]], [[], []], []⟩) (h := (fun gs => .a)) (G := fun t g => l_FnExactWalAppend.F (fun y0 => g y0) t.1.1 t.1.2.1 t.2.1) (by kernel_rfl) l_FnExactWalAppend.hE Tryz.func8 (by kernel_rfl) rfl (Nat.le_refl _) (fun t => HintOk.n1 (by kernel_rfl) (l_FnExactWalAppend.hok l_FnExactWalAppend.hE)) (fun t g => l_FnExactWalAppend_nat g t.1.1 t.1.2.1 t.2.1) (fun t => by kernel_rfl)
end
end Go.Proofs.YtaanadbpnmcbcaaGreatDoorA
