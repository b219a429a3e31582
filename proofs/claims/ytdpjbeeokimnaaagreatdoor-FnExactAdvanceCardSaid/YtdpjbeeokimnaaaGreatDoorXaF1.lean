/-
  Functions of the program, and that the small machine's runs are these. No condition.
  Printed by wip/amp/main.py (a session's own program) out of Lean's print of the program; Lean's kernel checks it.
-/
import Derived.Test.YtdpjbeeokimnaaaGreatDoorXaF0
namespace Go.Proofs.YtdpjbeeokimnaaaGreatDoorA
open Go
noncomputable section
set_option linter.unusedVariables false
set_option linter.unusedSimpArgs false
set_option maxRecDepth 100000

/-! slices.IndexFunc___string_string_ -/
def slices_IndexFunc_SLstring_string.l1 {R : Type} (f : ((ByteArray × Unit) → Option (Bool × Unit))) (kke0 : Option R) (kkr : Int → Option R) : Nat → List ByteArray → Int → Int → Option R
  | 0, _, _, _ => none
  | n + 1, s, i, i1 =>
    cond (decide (i1 < i)) (
      grd (gIx i1 (List.length s)) <|
      (f (rdE (.str : Kd) s (Int.toNat i1), ())).bind fun r =>
      cond (r.1) (kkr i1) (slices_IndexFunc_SLstring_string.l1 f kke0 kkr n s i (IntKind.wrap .i64 (i1 + (1 : Int))))) (kke0)
theorem slices_IndexFunc_SLstring_string.l1_nat {R S : Type} (g : R → Option S) (f : ((ByteArray × Unit) → Option (Bool × Unit))) (kke0 : Option R) (kkr : Int → Option R) : ∀ (n : Nat) (s : List ByteArray) (i : Int) (i1 : Int), slices_IndexFunc_SLstring_string.l1 f (kke0.bind g) (fun y0 => (kkr y0).bind g) n s i i1 = (slices_IndexFunc_SLstring_string.l1 f kke0 kkr n s i i1).bind g := by
  intro n
  induction n with
  | zero => intros; rfl
  | succ n ih => intros; simp only [slices_IndexFunc_SLstring_string.l1, grd_bind, cnd_bind, bnd_bind, non_bind, ih]
def slices_IndexFunc_SLstring_string.F {R : Type} (kk : Int → Option R) (s : List ByteArray) (f : ((ByteArray × Unit) → Option (Bool × Unit))) : Option R :=
  slices_IndexFunc_SLstring_string.l1 f (kk (-1 : Int)) (fun i => kk i) fuel s (List.length s : Int) (0 : Int)
theorem slices_IndexFunc_SLstring_string.F_nat {R S : Type} (g : R → Option S) (kk : Int → Option R) (s : List ByteArray) (f : ((ByteArray × Unit) → Option (Bool × Unit))) : slices_IndexFunc_SLstring_string.F (fun y0 => (kk y0).bind g) s f = (slices_IndexFunc_SLstring_string.F kk s f).bind g := by
  simp only [slices_IndexFunc_SLstring_string.F, grd_bind, cnd_bind, bnd_bind, non_bind, ← slices_IndexFunc_SLstring_string.l1_nat]
def slices_IndexFunc_SLstring_string (s : List ByteArray) (f : ((ByteArray × Unit) → Option (Bool × Unit))) : Option Int := slices_IndexFunc_SLstring_string.F (fun y0 => some y0) s f
theorem slices_IndexFunc_SLstring_string_nat {S : Type} (g : Int → Option S) (s : List ByteArray) (f : ((ByteArray × Unit) → Option (Bool × Unit))) : slices_IndexFunc_SLstring_string.F (fun y0 => g y0) s f = (slices_IndexFunc_SLstring_string s f).bind g := slices_IndexFunc_SLstring_string.F_nat g (fun y0 => some y0) s f
def slices_IndexFunc_SLstring_string.out : Int → CRes := fun a => ⟨encL SV.enc [.one (.int .i64)] (a, ()), [encL SC.enc [] (), encL SC.enc [] ()]⟩
def slices_IndexFunc_SLstring_string.ps : List PS := [.val [some (.str, false)], .fn [.one (.bool)]]
def slices_IndexFunc_SLstring_string.sA : List SA := [.v (.one (.slv [] .str)), .fn [.one (.str)] [.one (.bool)]]
def slices_IndexFunc_SLstring_string.fi : FI := FIs slices_IndexFunc_SLstring_string.sA (Int) (fun t => slices_IndexFunc_SLstring_string t.1 t.2.1) slices_IndexFunc_SLstring_string.out slices_IndexFunc_SLstring_string.ps
def slices_IndexFunc_SLstring_string.E : Env := ⟨tt, lkF [], 19, 0, [], []⟩
def slices_IndexFunc_SLstring_string.sh1 : SK := ⟨[.v (.one (.slv [1] .str)), .v (.one (.fv 0)), .v (.one (.int .i64)), .v (.one (.int .i64))], []⟩
def slices_IndexFunc_SLstring_string.sh1e0 : SK := ⟨[], []⟩
def slices_IndexFunc_SLstring_string.sh1r : SK := ⟨[.v (.one (.int .i64))], []⟩
def slices_IndexFunc_SLstring_string.ko1 : Ex → List CastAt × List Nat
  | .nrm => ([], [])
  | .ret => ([], [4])
  | .ext i => cond (Nat.beq i 0) ([], []) ([], [])
def slices_IndexFunc_SLstring_string.G1 (f : ((ByteArray × Unit) → Option (Bool × Unit))) (n : Nat) (R : Type) (t : slices_IndexFunc_SLstring_string.sh1.T) (K : Ex → Kp → Option R) : Option R := slices_IndexFunc_SLstring_string.l1 f (K (.ext 0) (SK.enc slices_IndexFunc_SLstring_string.sh1e0 ((), ()))) (fun y0 => K .ret (SK.enc slices_IndexFunc_SLstring_string.sh1r ((y0, ()), ()))) n t.1.1 t.1.2.2.1 t.1.2.2.2.1
def slices_IndexFunc_SLstring_string.S1 (f : ((ByteArray × Unit) → Option (Bool × Unit))) : Sum := ⟨([], [0, 1, 7, 8]), sumF slices_IndexFunc_SLstring_string.sh1 (slices_IndexFunc_SLstring_string.G1 f fuel), slices_IndexFunc_SLstring_string.ko1⟩
theorem slices_IndexFunc_SLstring_string.ok1 (f : ((ByteArray × Unit) → Option (Bool × Unit))) (hE : EOk Tryz.prog (slices_IndexFunc_SLstring_string.E)) : SumOk Tryz.prog { (slices_IndexFunc_SLstring_string.E) with gv := [fnE [.one (.str)] [.one (.bool)] f] } (cB (cR (cL (cR (bodyOf Tryz.f139))))) (slices_IndexFunc_SLstring_string.S1 f) := by
  have hh : HintOk Tryz.prog { (slices_IndexFunc_SLstring_string.E) with gv := [fnE [.one (.str)] [.one (.bool)] f] } (cB (cB (cR (cL (cR (bodyOf Tryz.f139)))))) (.a) := HintOk.n1 (Q := True) (by kernel_rfl) trivial
  have h := loopS (kin := ([], [0, 1, 7, 8])) (kout := slices_IndexFunc_SLstring_string.ko1) (sh := slices_IndexFunc_SLstring_string.sh1) (F := slices_IndexFunc_SLstring_string.G1 f) (ops_ok (hE.gv _)) (by kernel_rfl) hh (fun _ _ _ => rfl) (fun n R t K => by kernel_rfl) fuel
  exact HintOk.n1 (c := (cB (cR (cL (cR (bodyOf Tryz.f139)))))) (h := .s (slices_IndexFunc_SLstring_string.S1 f)) (P := Tryz.prog) (E := { (slices_IndexFunc_SLstring_string.E) with gv := [fnE [.one (.str)] [.one (.bool)] f] }) (by kernel_rfl) h
theorem slices_IndexFunc_SLstring_string.hok (f : ((ByteArray × Unit) → Option (Bool × Unit))) (hE : EOk Tryz.prog (slices_IndexFunc_SLstring_string.E)) : HintOk Tryz.prog { (slices_IndexFunc_SLstring_string.E) with gv := [fnE [.one (.str)] [.one (.bool)] f] } (bodyOf Tryz.f139) (.n (.a) (.n (.n (.a) (.b (.s (slices_IndexFunc_SLstring_string.S1 f)))) (.a))) := HintOk.n1 (Q := (True) ∧ (((True) ∧ (SumOk Tryz.prog { (slices_IndexFunc_SLstring_string.E) with gv := [fnE [.one (.str)] [.one (.bool)] f] } (cB (cR (cL (cR (bodyOf Tryz.f139))))) (slices_IndexFunc_SLstring_string.S1 f))) ∧ (True))) (by kernel_rfl) ⟨trivial, ⟨⟨trivial, (slices_IndexFunc_SLstring_string.ok1 f hE)⟩, trivial⟩⟩
theorem slices_IndexFunc_SLstring_string.hE : EOk Tryz.prog (slices_IndexFunc_SLstring_string.E) := EOk.of ttOk (trivial)
theorem slices_IndexFunc_SLstring_string.fok : FOk Tryz.prog 139 slices_IndexFunc_SLstring_string.fi :=
  fokS (E := slices_IndexFunc_SLstring_string.E) (wy := ⟨[[none]], [[], []], []⟩) (h := (fun gs => let f := fnP [.one (.str)] [.one (.bool)] (gN 0 gs); .n (.a) (.n (.n (.a) (.b (.s (slices_IndexFunc_SLstring_string.S1 f)))) (.a)))) (G := fun t g => slices_IndexFunc_SLstring_string.F (fun y0 => g y0) t.1 t.2.1) (by kernel_rfl) slices_IndexFunc_SLstring_string.hE Tryz.func139 (by kernel_rfl) rfl (Nat.le_refl _) (fun t => HintOk.n1 (by kernel_rfl) (slices_IndexFunc_SLstring_string.hok t.2.1 slices_IndexFunc_SLstring_string.hE)) (fun t g => slices_IndexFunc_SLstring_string_nat g t.1 t.2.1) (fun t => by kernel_rfl)
/-! slices.ContainsFunc___string_string_ -/
def slices_ContainsFunc_SLstring_string.F {R : Type} (kk : Bool → Option R) (s : List ByteArray) (f : ((ByteArray × Unit) → Option (Bool × Unit))) : Option R :=
  (slices_IndexFunc_SLstring_string s f).bind fun r =>
  kk (decide (r ≥ (0 : Int)))
theorem slices_ContainsFunc_SLstring_string.F_nat {R S : Type} (g : R → Option S) (kk : Bool → Option R) (s : List ByteArray) (f : ((ByteArray × Unit) → Option (Bool × Unit))) : slices_ContainsFunc_SLstring_string.F (fun y0 => (kk y0).bind g) s f = (slices_ContainsFunc_SLstring_string.F kk s f).bind g := by
  simp only [slices_ContainsFunc_SLstring_string.F, grd_bind, cnd_bind, bnd_bind, non_bind]
def slices_ContainsFunc_SLstring_string (s : List ByteArray) (f : ((ByteArray × Unit) → Option (Bool × Unit))) : Option Bool := slices_ContainsFunc_SLstring_string.F (fun y0 => some y0) s f
theorem slices_ContainsFunc_SLstring_string_nat {S : Type} (g : Bool → Option S) (s : List ByteArray) (f : ((ByteArray × Unit) → Option (Bool × Unit))) : slices_ContainsFunc_SLstring_string.F (fun y0 => g y0) s f = (slices_ContainsFunc_SLstring_string s f).bind g := slices_ContainsFunc_SLstring_string.F_nat g (fun y0 => some y0) s f
def slices_ContainsFunc_SLstring_string.out : Bool → CRes := fun a => ⟨encL SV.enc [.one (.bool)] (a, ()), [encL SC.enc [] (), encL SC.enc [] ()]⟩
def slices_ContainsFunc_SLstring_string.ps : List PS := [.val [some (.str, false)], .fn [.one (.bool)]]
def slices_ContainsFunc_SLstring_string.sA : List SA := [.v (.one (.slv [] .str)), .fn [.one (.str)] [.one (.bool)]]
def slices_ContainsFunc_SLstring_string.fi : FI := FIs slices_ContainsFunc_SLstring_string.sA (Bool) (fun t => slices_ContainsFunc_SLstring_string t.1 t.2.1) slices_ContainsFunc_SLstring_string.out slices_ContainsFunc_SLstring_string.ps
def slices_ContainsFunc_SLstring_string.E : Env := ⟨tt, lkF [(139, slices_IndexFunc_SLstring_string.fi)], 9, 0, [], []⟩
theorem slices_ContainsFunc_SLstring_string.hok (f : ((ByteArray × Unit) → Option (Bool × Unit))) (hE : EOk Tryz.prog (slices_ContainsFunc_SLstring_string.E)) : HintOk Tryz.prog { (slices_ContainsFunc_SLstring_string.E) with gv := [fnE [.one (.str)] [.one (.bool)] f] } (bodyOf Tryz.f92) (.a) := HintOk.n1 (Q := True) (by kernel_rfl) trivial
theorem slices_ContainsFunc_SLstring_string.hE : EOk Tryz.prog (slices_ContainsFunc_SLstring_string.E) := EOk.of ttOk (⟨slices_IndexFunc_SLstring_string.fok, trivial⟩)
theorem slices_ContainsFunc_SLstring_string.fok : FOk Tryz.prog 92 slices_ContainsFunc_SLstring_string.fi :=
  fokS (E := slices_ContainsFunc_SLstring_string.E) (wy := ⟨[[none]], [[], []], []⟩) (h := (fun gs => let f := fnP [.one (.str)] [.one (.bool)] (gN 0 gs); .a)) (G := fun t g => slices_ContainsFunc_SLstring_string.F (fun y0 => g y0) t.1 t.2.1) (by kernel_rfl) slices_ContainsFunc_SLstring_string.hE Tryz.func92 (by kernel_rfl) rfl (Nat.le_refl _) (fun t => HintOk.n1 (by kernel_rfl) (slices_ContainsFunc_SLstring_string.hok t.2.1 slices_ContainsFunc_SLstring_string.hE)) (fun t g => slices_ContainsFunc_SLstring_string_nat g t.1 t.2.1) (fun t => by kernel_rfl)
/-! loop.example_g00220_impl.isText$1 -/
def i_isText_1.F {R : Type} (kk : Bool → Option R) (t_ : ByteArray) : Option R :=
  kk (decide ((ByteArray.size t_ : Int) > (65536 : Int)))
theorem i_isText_1.F_nat {R S : Type} (g : R → Option S) (kk : Bool → Option R) (t_ : ByteArray) : i_isText_1.F (fun y0 => (kk y0).bind g) t_ = (i_isText_1.F kk t_).bind g := by
  simp only [i_isText_1.F, grd_bind, cnd_bind, bnd_bind, non_bind]
def i_isText_1 (t_ : ByteArray) : Option Bool := i_isText_1.F (fun y0 => some y0) t_
theorem i_isText_1_nat {S : Type} (g : Bool → Option S) (t_ : ByteArray) : i_isText_1.F (fun y0 => g y0) t_ = (i_isText_1 t_).bind g := i_isText_1.F_nat g (fun y0 => some y0) t_
def i_isText_1.out : Bool → CRes := fun a => ⟨encL SV.enc [.one (.bool)] (a, ()), [encL SC.enc [] ()]⟩
def i_isText_1.ps : List PS := [.val [none]]
def i_isText_1.sA : List SA := [.v (.one (.str))]
def i_isText_1.fi : FI := FIs i_isText_1.sA (Bool) (fun t => i_isText_1 t.1) i_isText_1.out i_isText_1.ps
def i_isText_1.E : Env := ⟨tt, lkF [], 6, 0, [], []⟩
theorem i_isText_1.hok (hE : EOk Tryz.prog (i_isText_1.E)) : HintOk Tryz.prog i_isText_1.E (bodyOf Tryz.f132) (.a) := HintOk.n1 (Q := True) (by kernel_rfl) trivial
theorem i_isText_1.hE : EOk Tryz.prog (i_isText_1.E) := EOk.of ttOk (trivial)
theorem i_isText_1.fok : FOk Tryz.prog 132 i_isText_1.fi :=
  fokS (E := i_isText_1.E) (wy := ⟨[[none]], [[]], []⟩) (h := (fun gs => .a)) (G := fun t g => i_isText_1.F (fun y0 => g y0) t.1) (by kernel_rfl) i_isText_1.hE Tryz.func132 (by kernel_rfl) rfl (Nat.le_refl _) (fun t => HintOk.n1 (by kernel_rfl) (i_isText_1.hok i_isText_1.hE)) (fun t g => i_isText_1_nat g t.1) (fun t => by kernel_rfl)
/-! loop.example_g00220_impl.isText -/
def i_isText.F {R : Type} (kk : Bool → Option R) (texts : List ByteArray) : Option R :=
  (slices_ContainsFunc_SLstring_string texts (fun t => (i_isText_1 t.1).bind fun a => some (a, ()))).bind fun r =>
  kk (!r)
theorem i_isText.F_nat {R S : Type} (g : R → Option S) (kk : Bool → Option R) (texts : List ByteArray) : i_isText.F (fun y0 => (kk y0).bind g) texts = (i_isText.F kk texts).bind g := by
  simp only [i_isText.F, grd_bind, cnd_bind, bnd_bind, non_bind]
def i_isText (texts : List ByteArray) : Option Bool := i_isText.F (fun y0 => some y0) texts
theorem i_isText_nat {S : Type} (g : Bool → Option S) (texts : List ByteArray) : i_isText.F (fun y0 => g y0) texts = (i_isText texts).bind g := i_isText.F_nat g (fun y0 => some y0) texts
def i_isText.out : Bool → CRes := fun a => ⟨encL SV.enc [.one (.bool)] (a, ()), [encL SC.enc [] ()]⟩
def i_isText.ps : List PS := [.val [some (.str, false)]]
def i_isText.sA : List SA := [.v (.one (.slv [] .str))]
def i_isText.fi : FI := FIs i_isText.sA (Bool) (fun t => i_isText t.1) i_isText.out i_isText.ps
def i_isText.E : Env := ⟨tt, lkF [(92, slices_ContainsFunc_SLstring_string.fi), (132, i_isText_1.fi)], 6, 0, [], []⟩
theorem i_isText.hok (hE : EOk Tryz.prog (i_isText.E)) : HintOk Tryz.prog i_isText.E (bodyOf Tryz.f84) (.a) := HintOk.n1 (Q := True) (by kernel_rfl) trivial
theorem i_isText.hE : EOk Tryz.prog (i_isText.E) := EOk.of ttOk (⟨slices_ContainsFunc_SLstring_string.fok, ⟨i_isText_1.fok, trivial⟩⟩)
theorem i_isText.fok : FOk Tryz.prog 84 i_isText.fi :=
  fokS (E := i_isText.E) (wy := ⟨[[none]], [[]], []⟩) (h := (fun gs => .a)) (G := fun t g => i_isText.F (fun y0 => g y0) t.1) (by kernel_rfl) i_isText.hE Tryz.func84 (by kernel_rfl) rfl (Nat.le_refl _) (fun t => HintOk.n1 (by kernel_rfl) (i_isText.hok i_isText.hE)) (fun t g => i_isText_nat g t.1) (fun t => by kernel_rfl)
/-! loop.example_g00220_impl.isHash$1 -/
def i_isHash_1.F {R : Type} (kk : Bool → Option R) (t_ : ByteArray) : Option R :=
  kk ((ByteArray.size t_ : Int) != (32 : Int))
theorem i_isHash_1.F_nat {R S : Type} (g : R → Option S) (kk : Bool → Option R) (t_ : ByteArray) : i_isHash_1.F (fun y0 => (kk y0).bind g) t_ = (i_isHash_1.F kk t_).bind g := by
  simp only [i_isHash_1.F, grd_bind, cnd_bind, bnd_bind, non_bind]
def i_isHash_1 (t_ : ByteArray) : Option Bool := i_isHash_1.F (fun y0 => some y0) t_
theorem i_isHash_1_nat {S : Type} (g : Bool → Option S) (t_ : ByteArray) : i_isHash_1.F (fun y0 => g y0) t_ = (i_isHash_1 t_).bind g := i_isHash_1.F_nat g (fun y0 => some y0) t_
def i_isHash_1.out : Bool → CRes := fun a => ⟨encL SV.enc [.one (.bool)] (a, ()), [encL SC.enc [] ()]⟩
def i_isHash_1.ps : List PS := [.val [none]]
def i_isHash_1.sA : List SA := [.v (.one (.str))]
def i_isHash_1.fi : FI := FIs i_isHash_1.sA (Bool) (fun t => i_isHash_1 t.1) i_isHash_1.out i_isHash_1.ps
def i_isHash_1.E : Env := ⟨tt, lkF [], 6, 0, [], []⟩
theorem i_isHash_1.hok (hE : EOk Tryz.prog (i_isHash_1.E)) : HintOk Tryz.prog i_isHash_1.E (bodyOf Tryz.f163) (.a) := HintOk.n1 (Q := True) (by kernel_rfl) trivial
theorem i_isHash_1.hE : EOk Tryz.prog (i_isHash_1.E) := EOk.of ttOk (trivial)
theorem i_isHash_1.fok : FOk Tryz.prog 163 i_isHash_1.fi :=
  fokS (E := i_isHash_1.E) (wy := ⟨[[none]], [[]], []⟩) (h := (fun gs => .a)) (G := fun t g => i_isHash_1.F (fun y0 => g y0) t.1) (by kernel_rfl) i_isHash_1.hE Tryz.func163 (by kernel_rfl) rfl (Nat.le_refl _) (fun t => HintOk.n1 (by kernel_rfl) (i_isHash_1.hok i_isHash_1.hE)) (fun t g => i_isHash_1_nat g t.1) (fun t => by kernel_rfl)
/-! loop.example_g00220_impl.isHash -/
def i_isHash.F {R : Type} (kk : Bool → Option R) (texts : List ByteArray) : Option R :=
  (slices_ContainsFunc_SLstring_string texts (fun t => (i_isHash_1 t.1).bind fun a => some (a, ()))).bind fun r =>
  kk (!r)
theorem i_isHash.F_nat {R S : Type} (g : R → Option S) (kk : Bool → Option R) (texts : List ByteArray) : i_isHash.F (fun y0 => (kk y0).bind g) texts = (i_isHash.F kk texts).bind g := by
  simp only [i_isHash.F, grd_bind, cnd_bind, bnd_bind, non_bind]
def i_isHash (texts : List ByteArray) : Option Bool := i_isHash.F (fun y0 => some y0) texts
theorem i_isHash_nat {S : Type} (g : Bool → Option S) (texts : List ByteArray) : i_isHash.F (fun y0 => g y0) texts = (i_isHash texts).bind g := i_isHash.F_nat g (fun y0 => some y0) texts
def i_isHash.out : Bool → CRes := fun a => ⟨encL SV.enc [.one (.bool)] (a, ()), [encL SC.enc [] ()]⟩
def i_isHash.ps : List PS := [.val [some (.str, false)]]
def i_isHash.sA : List SA := [.v (.one (.slv [] .str))]
def i_isHash.fi : FI := FIs i_isHash.sA (Bool) (fun t => i_isHash t.1) i_isHash.out i_isHash.ps
def i_isHash.E : Env := ⟨tt, lkF [(92, slices_ContainsFunc_SLstring_string.fi), (163, i_isHash_1.fi)], 6, 0, [], []⟩
theorem i_isHash.hok (hE : EOk Tryz.prog (i_isHash.E)) : HintOk Tryz.prog i_isHash.E (bodyOf Tryz.f120) (.a) := HintOk.n1 (Q := True) (by kernel_rfl) trivial
theorem i_isHash.hE : EOk Tryz.prog (i_isHash.E) := EOk.of ttOk (⟨slices_ContainsFunc_SLstring_string.fok, ⟨i_isHash_1.fok, trivial⟩⟩)
theorem i_isHash.fok : FOk Tryz.prog 120 i_isHash.fi :=
  fokS (E := i_isHash.E) (wy := ⟨[[none]], [[]], []⟩) (h := (fun gs => .a)) (G := fun t g => i_isHash.F (fun y0 => g y0) t.1) (by kernel_rfl) i_isHash.hE Tryz.func120 (by kernel_rfl) rfl (Nat.le_refl _) (fun t => HintOk.n1 (by kernel_rfl) (i_isHash.hok i_isHash.hE)) (fun t g => i_isHash_nat g t.1) (fun t => by kernel_rfl)
/-! loop.example_g00220_impl.proofCode -/
def i_proofCode.j1 {R : Type} (kkn : List ByteArray → List ByteArray → Bool → Option R) (proof : List ByteArray) (hashes : List ByteArray) : Option R :=
  (i_isList_string proof).bind fun r =>
  cond (!r) (kkn proof hashes true) (
    (i_isText hashes).bind fun r1 =>
    kkn proof hashes (!r1))
theorem i_proofCode.j1_nat {R S : Type} (g : R → Option S) (kkn : List ByteArray → List ByteArray → Bool → Option R) (proof : List ByteArray) (hashes : List ByteArray) : i_proofCode.j1 (fun y0 y1 y2 => (kkn y0 y1 y2).bind g) proof hashes = (i_proofCode.j1 kkn proof hashes).bind g := by
  simp only [i_proofCode.j1, grd_bind, cnd_bind, bnd_bind, non_bind]
def i_proofCode.F {R : Type} (kk : Int → Option R) (proof : List ByteArray) (hashes : List ByteArray) : Option R :=
  i_proofCode.j1 (fun proof1 hashes1 b =>
    cond (b) (kk (2 : Int)) (
      (i_isHash hashes1).bind fun r =>
      cond (!r) (kk (1 : Int)) (
        cond (decide ((List.length proof1 : Int) > (64 : Int))) (kk (1 : Int)) (
          (i_isHash proof1).bind fun r1 =>
          cond (!r1) (kk (1 : Int)) (kk (0 : Int)))))) proof hashes
theorem i_proofCode.F_nat {R S : Type} (g : R → Option S) (kk : Int → Option R) (proof : List ByteArray) (hashes : List ByteArray) : i_proofCode.F (fun y0 => (kk y0).bind g) proof hashes = (i_proofCode.F kk proof hashes).bind g := by
  simp only [i_proofCode.F, grd_bind, cnd_bind, bnd_bind, non_bind, ← i_proofCode.j1_nat]
def i_proofCode (proof : List ByteArray) (hashes : List ByteArray) : Option Int := i_proofCode.F (fun y0 => some y0) proof hashes
theorem i_proofCode_nat {S : Type} (g : Int → Option S) (proof : List ByteArray) (hashes : List ByteArray) : i_proofCode.F (fun y0 => g y0) proof hashes = (i_proofCode proof hashes).bind g := i_proofCode.F_nat g (fun y0 => some y0) proof hashes
def i_proofCode.out : Int → CRes := fun a => ⟨encL SV.enc [.one (.int .i64)] (a, ()), [encL SC.enc [] (), encL SC.enc [] ()]⟩
def i_proofCode.ps : List PS := [.val [some (.str, false)], .val [some (.str, false)]]
def i_proofCode.sA : List SA := [.v (.one (.slv [] .str)), .v (.one (.slv [] .str))]
def i_proofCode.fi : FI := FIs i_proofCode.sA (Int) (fun t => i_proofCode t.1 t.2.1) i_proofCode.out i_proofCode.ps
def i_proofCode.E : Env := ⟨tt, lkF [(58, i_isList_string.fi), (84, i_isText.fi), (120, i_isHash.fi)], 28, 0, [], []⟩
def i_proofCode.sh1 : SK := ⟨[.v (.one (.slv [1] .str)), .v (.one (.slv [2] .str))], []⟩
def i_proofCode.sh1n : SK := ⟨[.v (.one (.slv [1] .str)), .v (.one (.slv [2] .str)), .v (.one (.bool))], []⟩
def i_proofCode.ko1 : Ex → List CastAt × List Nat
  | .nrm => ([], [0, 1, 5])
  | .ret => ([], [])
  | .ext i => ([], [])
def i_proofCode.G1 (R : Type) (t : i_proofCode.sh1.T) (K : Ex → Kp → Option R) : Option R := i_proofCode.j1 (fun y0 y1 y2 => K .nrm (SK.enc i_proofCode.sh1n ((y0, y1, y2, ()), ()))) t.1.1 t.1.2.1
def i_proofCode.S1 : Sum := ⟨([], [0, 1]), sumF i_proofCode.sh1 (i_proofCode.G1), i_proofCode.ko1⟩
theorem i_proofCode.ok1 (hE : EOk Tryz.prog (i_proofCode.E)) : SumOk Tryz.prog i_proofCode.E (cL (cB (cL (cR (bodyOf Tryz.f74))))) (i_proofCode.S1) := by
  have hh : HintOk Tryz.prog i_proofCode.E (cL (cB (cL (cR (bodyOf Tryz.f74))))) (.a) := HintOk.n1 (Q := True) (by kernel_rfl) trivial
  exact sumS (kin := ([], [0, 1])) (kout := i_proofCode.ko1) (sh := i_proofCode.sh1) (F := i_proofCode.G1) (ops_ok (hE.gv _)) (by kernel_rfl) hh (fun R t K => by kernel_rfl)
theorem i_proofCode.hok (hE : EOk Tryz.prog (i_proofCode.E)) : HintOk Tryz.prog i_proofCode.E (bodyOf Tryz.f74) (.n (.a) (.n (.b (.n (.s (i_proofCode.S1)) (.a))) (.a))) := HintOk.n1 (Q := (True) ∧ (((SumOk Tryz.prog i_proofCode.E (cL (cB (cL (cR (bodyOf Tryz.f74))))) (i_proofCode.S1)) ∧ (True)) ∧ (True))) (by kernel_rfl) ⟨trivial, ⟨⟨(i_proofCode.ok1 hE), trivial⟩, trivial⟩⟩
theorem i_proofCode.hE : EOk Tryz.prog (i_proofCode.E) := EOk.of ttOk (⟨i_isList_string.fok, ⟨i_isText.fok, ⟨i_isHash.fok, trivial⟩⟩⟩)
theorem i_proofCode.fok : FOk Tryz.prog 74 i_proofCode.fi :=
  fokS (E := i_proofCode.E) (wy := ⟨[[none]], [[], []], []⟩) (h := (fun gs => .n (.a) (.n (.b (.n (.s (i_proofCode.S1)) (.a))) (.a)))) (G := fun t g => i_proofCode.F (fun y0 => g y0) t.1 t.2.1) (by kernel_rfl) i_proofCode.hE Tryz.func74 (by kernel_rfl) rfl (Nat.le_refl _) (fun t => HintOk.n1 (by kernel_rfl) (i_proofCode.hok i_proofCode.hE)) (fun t g => i_proofCode_nat g t.1 t.2.1) (fun t => by kernel_rfl)
/-! loop.example_g00220_impl.within -/
def i_within.F {R : Type} (kk : Bool → Option R) (n_ : Int) (low : Int) (high : Int) : Option R :=
  cond (decide (n_ ≥ low)) (kk (decide (n_ ≤ high))) (kk false)
theorem i_within.F_nat {R S : Type} (g : R → Option S) (kk : Bool → Option R) (n_ : Int) (low : Int) (high : Int) : i_within.F (fun y0 => (kk y0).bind g) n_ low high = (i_within.F kk n_ low high).bind g := by
  simp only [i_within.F, grd_bind, cnd_bind, bnd_bind, non_bind]
def i_within (n_ : Int) (low : Int) (high : Int) : Option Bool := i_within.F (fun y0 => some y0) n_ low high
theorem i_within_nat {S : Type} (g : Bool → Option S) (n_ : Int) (low : Int) (high : Int) : i_within.F (fun y0 => g y0) n_ low high = (i_within n_ low high).bind g := i_within.F_nat g (fun y0 => some y0) n_ low high
def i_within.out : Bool → CRes := fun a => ⟨encL SV.enc [.one (.bool)] (a, ()), [encL SC.enc [] (), encL SC.enc [] (), encL SC.enc [] ()]⟩
def i_within.ps : List PS := [.val [none], .val [none], .val [none]]
def i_within.sA : List SA := [.v (.one (.int .i64)), .v (.one (.int .i64)), .v (.one (.int .i64))]
def i_within.fi : FI := FIs i_within.sA (Bool) (fun t => i_within t.1 t.2.1 t.2.2.1) i_within.out i_within.ps
def i_within.E : Env := ⟨tt, lkF [], 15, 0, [], []⟩
theorem i_within.hok (hE : EOk Tryz.prog (i_within.E)) : HintOk Tryz.prog i_within.E (bodyOf Tryz.f61) (.a) := HintOk.n1 (Q := True) (by kernel_rfl) trivial
theorem i_within.hE : EOk Tryz.prog (i_within.E) := EOk.of ttOk (trivial)
theorem i_within.fok : FOk Tryz.prog 61 i_within.fi :=
  fokS (E := i_within.E) (wy := ⟨[[none]], [[], [], []], []⟩) (h := (fun gs => .a)) (G := fun t g => i_within.F (fun y0 => g y0) t.1 t.2.1 t.2.2.1) (by kernel_rfl) i_within.hE Tryz.func61 (by kernel_rfl) rfl (Nat.le_refl _) (fun t => HintOk.n1 (by kernel_rfl) (i_within.hok i_within.hE)) (fun t g => i_within_nat g t.1 t.2.1 t.2.2.1) (fun t => by kernel_rfl)
/-! loop.example_g00220_impl.statementOK -/
def i_statementOK.F {R : Type} (kk : Bool → Option R) (s_Size : Int) (s_Log : ByteArray) (s_Map : ByteArray) : Option R :=
  (i_within s_Size (0 : Int) (50 : Int)).bind fun r =>
  cond (r) (
    (i_isHash [s_Log, s_Map]).bind fun r1 =>
    kk r1) (kk false)
theorem i_statementOK.F_nat {R S : Type} (g : R → Option S) (kk : Bool → Option R) (s_Size : Int) (s_Log : ByteArray) (s_Map : ByteArray) : i_statementOK.F (fun y0 => (kk y0).bind g) s_Size s_Log s_Map = (i_statementOK.F kk s_Size s_Log s_Map).bind g := by
  simp only [i_statementOK.F, grd_bind, cnd_bind, bnd_bind, non_bind]
def i_statementOK (s_Size : Int) (s_Log : ByteArray) (s_Map : ByteArray) : Option Bool := i_statementOK.F (fun y0 => some y0) s_Size s_Log s_Map
theorem i_statementOK_nat {S : Type} (g : Bool → Option S) (s_Size : Int) (s_Log : ByteArray) (s_Map : ByteArray) : i_statementOK.F (fun y0 => g y0) s_Size s_Log s_Map = (i_statementOK s_Size s_Log s_Map).bind g := i_statementOK.F_nat g (fun y0 => some y0) s_Size s_Log s_Map
def i_statementOK.out : Bool → CRes := fun a => ⟨encL SV.enc [.one (.bool)] (a, ()), [encL SC.enc [] ()]⟩
def i_statementOK.ps : List PS := [.val [none, none, none]]
def i_statementOK.sA : List SA := [.v (.agg [.int .i64, .str, .str])]
def i_statementOK.fi : FI := FIs i_statementOK.sA (Bool) (fun t => i_statementOK t.1.1 t.1.2.1 t.1.2.2.1) i_statementOK.out i_statementOK.ps
def i_statementOK.E : Env := ⟨tt, lkF [(61, i_within.fi), (120, i_isHash.fi)], 14, 0, [], []⟩
theorem i_statementOK.hok (hE : EOk Tryz.prog (i_statementOK.E)) : HintOk Tryz.prog i_statementOK.E (bodyOf Tryz.f76) (.a) := HintOk.n1 (Q := True) (by kernel_rfl) trivial
theorem i_statementOK.hE : EOk Tryz.prog (i_statementOK.E) := EOk.of ttOk (⟨i_within.fok, ⟨i_isHash.fok, trivial⟩⟩)
theorem i_statementOK.fok : FOk Tryz.prog 76 i_statementOK.fi :=
  fokS (E := i_statementOK.E) (wy := ⟨[[none]], [[]], []⟩) (h := (fun gs => .a)) (G := fun t g => i_statementOK.F (fun y0 => g y0) t.1.1 t.1.2.1 t.1.2.2.1) (by kernel_rfl) i_statementOK.hE Tryz.func76 (by kernel_rfl) rfl (Nat.le_refl _) (fun t => HintOk.n1 (by kernel_rfl) (i_statementOK.hok i_statementOK.hE)) (fun t g => i_statementOK_nat g t.1.1 t.1.2.1 t.1.2.2.1) (fun t => by kernel_rfl)
/-! _loop.example_g00220_impl.Trust_.last -/
def i_Trust_last.F {R : Type} (kk : Int → ByteArray → ByteArray → Option R) (t_Key : ByteArray) (t_Has : Bool) (t_Size : Int) (t_Log : ByteArray) (t_Map : ByteArray) : Option R :=
  kk t_Size t_Log t_Map
theorem i_Trust_last.F_nat {R S : Type} (g : R → Option S) (kk : Int → ByteArray → ByteArray → Option R) (t_Key : ByteArray) (t_Has : Bool) (t_Size : Int) (t_Log : ByteArray) (t_Map : ByteArray) : i_Trust_last.F (fun y0 y1 y2 => (kk y0 y1 y2).bind g) t_Key t_Has t_Size t_Log t_Map = (i_Trust_last.F kk t_Key t_Has t_Size t_Log t_Map).bind g := by
  simp only [i_Trust_last.F, grd_bind, cnd_bind, bnd_bind, non_bind]
def i_Trust_last (t_Key : ByteArray) (t_Has : Bool) (t_Size : Int) (t_Log : ByteArray) (t_Map : ByteArray) : Option (Int × ByteArray × ByteArray) := i_Trust_last.F (fun y0 y1 y2 => some (y0, y1, y2)) t_Key t_Has t_Size t_Log t_Map
theorem i_Trust_last_nat {S : Type} (g : (Int × ByteArray × ByteArray) → Option S) (t_Key : ByteArray) (t_Has : Bool) (t_Size : Int) (t_Log : ByteArray) (t_Map : ByteArray) : i_Trust_last.F (fun y0 y1 y2 => g (y0, y1, y2)) t_Key t_Has t_Size t_Log t_Map = (i_Trust_last t_Key t_Has t_Size t_Log t_Map).bind g := i_Trust_last.F_nat g (fun y0 y1 y2 => some (y0, y1, y2)) t_Key t_Has t_Size t_Log t_Map
def i_Trust_last.out : (Int × ByteArray × ByteArray) → CRes := fun a => ⟨encL SV.enc [.agg [.int .i64, .str, .str]] ((a.1, a.2.1, a.2.2, ()), ()), [encL SC.enc [] ()]⟩
def i_Trust_last.ps : List PS := [.val [none, none, none, none, none]]
def i_Trust_last.sA : List SA := [.v (.agg [.str, .bool, .int .i64, .str, .str])]
def i_Trust_last.fi : FI := FIs i_Trust_last.sA (Int × ByteArray × ByteArray) (fun t => i_Trust_last t.1.1 t.1.2.1 t.1.2.2.1 t.1.2.2.2.1 t.1.2.2.2.2.1) i_Trust_last.out i_Trust_last.ps
def i_Trust_last.E : Env := ⟨tt, lkF [], 10, 0, [], []⟩
theorem i_Trust_last.hok (hE : EOk Tryz.prog (i_Trust_last.E)) : HintOk Tryz.prog i_Trust_last.E (bodyOf Tryz.f121) (.a) := HintOk.n1 (Q := True) (by kernel_rfl) trivial
theorem i_Trust_last.hE : EOk Tryz.prog (i_Trust_last.E) := EOk.of ttOk (trivial)
theorem i_Trust_last.fok : FOk Tryz.prog 121 i_Trust_last.fi :=
  fokS (E := i_Trust_last.E) (wy := ⟨[[none, none, none]], [[]], []⟩) (h := (fun gs => .a)) (G := fun t g => i_Trust_last.F (fun y0 y1 y2 => g (y0, y1, y2)) t.1.1 t.1.2.1 t.1.2.2.1 t.1.2.2.2.1 t.1.2.2.2.2.1) (by kernel_rfl) i_Trust_last.hE Tryz.func121 (by kernel_rfl) rfl (Nat.le_refl _) (fun t => HintOk.n1 (by kernel_rfl) (i_Trust_last.hok i_Trust_last.hE)) (fun t g => i_Trust_last_nat g t.1.1 t.1.2.1 t.1.2.2.1 t.1.2.2.2.1 t.1.2.2.2.2.1) (fun t => by kernel_rfl)
/-! loop.example_g00220_impl.TrustOK -/
def i_TrustOK.F {R : Type} (kk : Bool → Option R) (t_Key : ByteArray) (t_Has : Bool) (t_Size : Int) (t_Log : ByteArray) (t_Map : ByteArray) : Option R :=
  (i_isHash [t_Key]).bind fun r =>
  cond (!r) (kk false) (
    cond (!t_Has) (
      (i_Trust_last t_Key t_Has t_Size t_Log t_Map).bind fun r1 =>
      kk ((r1.1 == (0 : Int)) && ((sEq r1.2.1 ByteArray.empty) && (sEq r1.2.2 ByteArray.empty)))) (
      (i_Trust_last t_Key t_Has t_Size t_Log t_Map).bind fun r2 =>
      (i_statementOK r2.1 r2.2.1 r2.2.2).bind fun r3 =>
      kk r3))
theorem i_TrustOK.F_nat {R S : Type} (g : R → Option S) (kk : Bool → Option R) (t_Key : ByteArray) (t_Has : Bool) (t_Size : Int) (t_Log : ByteArray) (t_Map : ByteArray) : i_TrustOK.F (fun y0 => (kk y0).bind g) t_Key t_Has t_Size t_Log t_Map = (i_TrustOK.F kk t_Key t_Has t_Size t_Log t_Map).bind g := by
  simp only [i_TrustOK.F, grd_bind, cnd_bind, bnd_bind, non_bind]
def i_TrustOK (t_Key : ByteArray) (t_Has : Bool) (t_Size : Int) (t_Log : ByteArray) (t_Map : ByteArray) : Option Bool := i_TrustOK.F (fun y0 => some y0) t_Key t_Has t_Size t_Log t_Map
theorem i_TrustOK_nat {S : Type} (g : Bool → Option S) (t_Key : ByteArray) (t_Has : Bool) (t_Size : Int) (t_Log : ByteArray) (t_Map : ByteArray) : i_TrustOK.F (fun y0 => g y0) t_Key t_Has t_Size t_Log t_Map = (i_TrustOK t_Key t_Has t_Size t_Log t_Map).bind g := i_TrustOK.F_nat g (fun y0 => some y0) t_Key t_Has t_Size t_Log t_Map
def i_TrustOK.out : Bool → CRes := fun a => ⟨encL SV.enc [.one (.bool)] (a, ()), [encL SC.enc [] ()]⟩
def i_TrustOK.ps : List PS := [.val [none, none, none, none, none]]
def i_TrustOK.sA : List SA := [.v (.agg [.str, .bool, .int .i64, .str, .str])]
def i_TrustOK.fi : FI := FIs i_TrustOK.sA (Bool) (fun t => i_TrustOK t.1.1 t.1.2.1 t.1.2.2.1 t.1.2.2.2.1 t.1.2.2.2.2.1) i_TrustOK.out i_TrustOK.ps
def i_TrustOK.E : Env := ⟨tt, lkF [(76, i_statementOK.fi), (120, i_isHash.fi), (121, i_Trust_last.fi)], 18, 0, [], []⟩
theorem i_TrustOK.hok (hE : EOk Tryz.prog (i_TrustOK.E)) : HintOk Tryz.prog i_TrustOK.E (bodyOf Tryz.f75) (.a) := HintOk.n1 (Q := True) (by kernel_rfl) trivial
theorem i_TrustOK.hE : EOk Tryz.prog (i_TrustOK.E) := EOk.of ttOk (⟨i_statementOK.fok, ⟨i_isHash.fok, ⟨i_Trust_last.fok, trivial⟩⟩⟩)
theorem i_TrustOK.fok : FOk Tryz.prog 75 i_TrustOK.fi :=
  fokS (E := i_TrustOK.E) (wy := ⟨[[none]], [[]], []⟩) (h := (fun gs => .a)) (G := fun t g => i_TrustOK.F (fun y0 => g y0) t.1.1 t.1.2.1 t.1.2.2.1 t.1.2.2.2.1 t.1.2.2.2.2.1) (by kernel_rfl) i_TrustOK.hE Tryz.func75 (by kernel_rfl) rfl (Nat.le_refl _) (fun t => HintOk.n1 (by kernel_rfl) (i_TrustOK.hok i_TrustOK.hE)) (fun t g => i_TrustOK_nat g t.1.1 t.1.2.1 t.1.2.2.1 t.1.2.2.2.1 t.1.2.2.2.2.1) (fun t => by kernel_rfl)
/-! loop.example_g00220_impl.number -/
def i_number.l1 {R : Type} (kke0 : List Int → Option R) : Nat → Int → Int → List Int → Option R
  | 0, _, _, _ => none
  | n + 1, n_, i, out =>
    cond (decide (i ≥ (0 : Int))) (
      grd (gIx i (List.length out)) <|
      grd (gSh (8 : Int)) <|
      i_number.l1 kke0 n (iShr .i64 n_ (8 : Int)) (IntKind.wrap .i64 (i - (1 : Int))) (setE (.int .u8 : Kd) out (Int.toNat i) (IntKind.wrap .u8 n_))) (kke0 out)
theorem i_number.l1_nat {R S : Type} (g : R → Option S) (kke0 : List Int → Option R) : ∀ (n : Nat) (n_ : Int) (i : Int) (out : List Int), i_number.l1 (fun y0 => (kke0 y0).bind g) n n_ i out = (i_number.l1 kke0 n n_ i out).bind g := by
  intro n
  induction n with
  | zero => intros; rfl
  | succ n ih => intros; simp only [i_number.l1, grd_bind, cnd_bind, bnd_bind, non_bind, ih]
def i_number.F {R : Type} (kk : ByteArray → Option R) (n_ : Int) (many : Int) : Option R :=
  grd (gMk many many 1) <|
  i_number.l1 (fun out => kk (strL out)) fuel n_ (IntKind.wrap .i64 (many - (1 : Int))) (List.replicate (Int.toNat many) (0 : Int))
theorem i_number.F_nat {R S : Type} (g : R → Option S) (kk : ByteArray → Option R) (n_ : Int) (many : Int) : i_number.F (fun y0 => (kk y0).bind g) n_ many = (i_number.F kk n_ many).bind g := by
  simp only [i_number.F, grd_bind, cnd_bind, bnd_bind, non_bind, ← i_number.l1_nat]
def i_number (n_ : Int) (many : Int) : Option ByteArray := i_number.F (fun y0 => some y0) n_ many
theorem i_number_nat {S : Type} (g : ByteArray → Option S) (n_ : Int) (many : Int) : i_number.F (fun y0 => g y0) n_ many = (i_number n_ many).bind g := i_number.F_nat g (fun y0 => some y0) n_ many
def i_number.out : ByteArray → CRes := fun a => ⟨encL SV.enc [.one (.str)] (a, ()), [encL SC.enc [] (), encL SC.enc [] ()]⟩
def i_number.ps : List PS := [.val [none], .val [none]]
def i_number.sA : List SA := [.v (.one (.int .i64)), .v (.one (.int .i64))]
def i_number.fi : FI := FIs i_number.sA (ByteArray) (fun t => i_number t.1 t.2.1) i_number.out i_number.ps
def i_number.E : Env := ⟨tt, lkF [], 24, 0, [], []⟩
def i_number.sh1 : SK := ⟨[.v (.one (.int .i64)), .v (.one (.slo 0)), .v (.one (.int .i64))], [.arr (.int .u8) [] true]⟩
def i_number.sh1e0 : SK := ⟨[.v (.one (.slo 0))], [.arr (.int .u8) [] true]⟩
def i_number.ko1 : Ex → List CastAt × List Nat
  | .nrm => ([], [])
  | .ret => ([], [])
  | .ext i => cond (Nat.beq i 0) ([], [5]) ([], [])
def i_number.G1 (n : Nat) (R : Type) (t : i_number.sh1.T) (K : Ex → Kp → Option R) : Option R := i_number.l1 (fun y0 => K (.ext 0) (SK.enc i_number.sh1e0 (((), ()), (y0, ())))) n t.1.1 t.1.2.2.1 t.2.1
def i_number.S1 : Sum := ⟨([], [0, 5, 6]), sumF i_number.sh1 (i_number.G1 fuel), i_number.ko1⟩
theorem i_number.ok1 (hE : EOk Tryz.prog (i_number.E)) : SumOk Tryz.prog i_number.E (cB (cR (cL (cR (cR (bodyOf Tryz.f102)))))) (i_number.S1) := by
  have hh : HintOk Tryz.prog i_number.E (cB (cB (cR (cL (cR (cR (bodyOf Tryz.f102))))))) (.a) := HintOk.n1 (Q := True) (by kernel_rfl) trivial
  have h := loopS (kin := ([], [0, 5, 6])) (kout := i_number.ko1) (sh := i_number.sh1) (F := i_number.G1) (ops_ok (hE.gv _)) (by kernel_rfl) hh (fun _ _ _ => rfl) (fun n R t K => by kernel_rfl) fuel
  exact HintOk.n1 (c := (cB (cR (cL (cR (cR (bodyOf Tryz.f102))))))) (h := .s (i_number.S1)) (P := Tryz.prog) (E := i_number.E) (by kernel_rfl) h
theorem i_number.hok (hE : EOk Tryz.prog (i_number.E)) : HintOk Tryz.prog i_number.E (bodyOf Tryz.f102) (.n (.a) (.n (.a) (.n (.n (.a) (.b (.s (i_number.S1)))) (.a)))) := HintOk.n1 (Q := (True) ∧ ((True) ∧ (((True) ∧ (SumOk Tryz.prog i_number.E (cB (cR (cL (cR (cR (bodyOf Tryz.f102)))))) (i_number.S1))) ∧ (True)))) (by kernel_rfl) ⟨trivial, ⟨trivial, ⟨⟨trivial, (i_number.ok1 hE)⟩, trivial⟩⟩⟩
theorem i_number.hE : EOk Tryz.prog (i_number.E) := EOk.of ttOk (trivial)
theorem i_number.fok : FOk Tryz.prog 102 i_number.fi :=
  fokS (E := i_number.E) (wy := ⟨[[none]], [[], []], []⟩) (h := (fun gs => .n (.a) (.n (.a) (.n (.n (.a) (.b (.s (i_number.S1)))) (.a))))) (G := fun t g => i_number.F (fun y0 => g y0) t.1 t.2.1) (by kernel_rfl) i_number.hE Tryz.func102 (by kernel_rfl) rfl (Nat.le_refl _) (fun t => HintOk.n1 (by kernel_rfl) (i_number.hok i_number.hE)) (fun t g => i_number_nat g t.1 t.2.1) (fun t => by kernel_rfl)
/-! strings.Repeat -/
theorem rep_ex : ∃ f : (ByteArray → Nat → ByteArray) × (ByteArray → Int → Bool), f.1 = (fun s c => ⟨(Lib.repeatL s.data.toList c).toArray⟩) ∧ f.2 = (fun s n => decide (0 ≤ n ∧ n ≤ 9223372036854775807 ∧ s.size * n.toNat ≤ 140737488355328)) := ⟨(_, _), rfl, rfl⟩
/-- Chosen, so that the kernel does not unfold them. -/
noncomputable def repS : ByteArray → Nat → ByteArray := (Classical.choose rep_ex).1
noncomputable def gRep : ByteArray → Int → Bool := (Classical.choose rep_ex).2
theorem repS_eq (s : ByteArray) (c : Nat) : repS s c = ⟨(Lib.repeatL s.data.toList c).toArray⟩ := congrFun (congrFun (Classical.choose_spec rep_ex).1 s) c
theorem gRep_eq (s : ByteArray) (n : Int) : gRep s n = decide (0 ≤ n ∧ n ≤ 9223372036854775807 ∧ s.size * n.toNat ≤ 140737488355328) := congrFun (congrFun (Classical.choose_spec rep_ex).2 s) n
noncomputable def strings_Repeat.F {R : Type} (kk : ByteArray → Option R) (s : ByteArray) (n : Int) : Option R := grd (gRep s n) <| kk (repS s n.toNat)
theorem strings_Repeat_ex : ∃ f : ByteArray → Int → Option ByteArray, f = fun s n => strings_Repeat.F (fun y0 => some y0) s n := ⟨_, rfl⟩
noncomputable def strings_Repeat : ByteArray → Int → Option ByteArray := Classical.choose strings_Repeat_ex
theorem strings_Repeat_eq (s : ByteArray) (n : Int) : strings_Repeat s n = strings_Repeat.F (fun y0 => some y0) s n := congrFun (congrFun (Classical.choose_spec strings_Repeat_ex) s) n
def strings_Repeat.out : (ByteArray) → CRes := fun a => ⟨encL SV.enc [.one (.str)] (a, ()), [encL SC.enc [] (), encL SC.enc [] ()]⟩
def strings_Repeat.ps : List PS := [.val [none], .val [none]]
def strings_Repeat.sA : List SA := [.v (.one (.str)), .v (.one (.int .i64))]
noncomputable def strings_Repeat.fi : FI := FIs strings_Repeat.sA (ByteArray) (fun t => strings_Repeat t.1 t.2.1) strings_Repeat.out strings_Repeat.ps
theorem strings_Repeat.fok : FOk Tryz.prog 221 strings_Repeat.fi := by
  refine fok_ext ⟨_, _, Tryz.func221, by kernel_rfl, rfl⟩ (by kernel_rfl) (fun a => [.str a]) (fun a => by kernel_rfl) (fun a => by kernel_rfl) (fun t a h w => ?_)
  obtain ⟨s, n, u⟩ := t
  have h' : grd (gRep s n) (some (repS s n.toNat)) = some a := (strings_Repeat_eq s n).symm.trans h
  cases hg : gRep s n with
  | false => rw [hg] at h'; cases h'
  | true =>
    rw [hg] at h'
    obtain rfl := Option.some.inj h'
    rw [gRep_eq] at hg
    obtain ⟨h0, h1, h2⟩ := of_decide_eq_true hg
    rw [repS_eq]
    have := Tryz.strings_Repeat s n.toNat w (by omega) h2
    rw [Int.toNat_of_nonneg h0] at this
    exact this
/-! loop.example_g00220_impl.hashWords -/
def i_hashWords.F {R : Type} (kk : List Int → Option R) : Option R :=
  kk [(1779033703 : Int), (3144134277 : Int), (1013904242 : Int), (2773480762 : Int), (1359893119 : Int), (2600822924 : Int), (528734635 : Int), (1541459225 : Int)]
theorem i_hashWords.F_nat {R S : Type} (g : R → Option S) (kk : List Int → Option R) : i_hashWords.F (fun y0 => (kk y0).bind g) = (i_hashWords.F kk).bind g := by
  simp only [i_hashWords.F, grd_bind, cnd_bind, bnd_bind, non_bind]
theorem i_hashWords_ex : ∃ f : Option (List Int), f = i_hashWords.F (fun y0 => some y0) := ⟨_, rfl⟩
/-- Chosen, so that the kernel does not unfold it. -/
noncomputable def i_hashWords : Option (List Int) := Classical.choose i_hashWords_ex
theorem i_hashWords_eq : i_hashWords = i_hashWords.F (fun y0 => some y0) := (Classical.choose_spec i_hashWords_ex)
theorem i_hashWords_nat {S : Type} (g : (List Int) → Option S) : i_hashWords.F (fun y0 => g y0) = (i_hashWords).bind g := by
  rw [i_hashWords_eq]
  exact i_hashWords.F_nat g (fun y0 => some y0)
def i_hashWords.out : (List Int) → CRes := fun a => ⟨encL SV.enc [.vec 8 (.int .u32)] (a, ()), []⟩
def i_hashWords.ps : List PS := []
def i_hashWords.sA : List SA := []
def i_hashWords.fi : FI := FIs i_hashWords.sA (List Int) (fun t => i_hashWords) i_hashWords.out i_hashWords.ps
def i_hashWords.E : Env := ⟨tt, lkF [], 2, 0, [], []⟩
theorem i_hashWords.hok (hE : EOk Tryz.prog (i_hashWords.E)) : HintOk Tryz.prog i_hashWords.E (bodyOf Tryz.f222) (.a) := HintOk.n1 (Q := True) (by kernel_rfl) trivial
theorem i_hashWords.hE : EOk Tryz.prog (i_hashWords.E) := EOk.of ttOk (trivial)
theorem i_hashWords.fok : FOk Tryz.prog 222 i_hashWords.fi :=
  fokS (E := i_hashWords.E) (wy := ⟨[[]], [], []⟩) (h := (fun gs => .a)) (G := fun t g => i_hashWords.F (fun y0 => g y0)) (by kernel_rfl) i_hashWords.hE Tryz.func222 (by kernel_rfl) rfl (Nat.le_refl _) (fun t => HintOk.n1 (by kernel_rfl) (i_hashWords.hok i_hashWords.hE)) (fun t g => i_hashWords_nat g) (fun t => by kernel_rfl)
/-! loop.example_g00220_impl.roundWords -/
def i_roundWords.F {R : Type} (kk : List Int → Option R) : Option R :=
  kk [(1116352408 : Int), (1899447441 : Int), (3049323471 : Int), (3921009573 : Int), (961987163 : Int), (1508970993 : Int), (2453635748 : Int), (2870763221 : Int), (3624381080 : Int), (310598401 : Int), (607225278 : Int), (1426881987 : Int), (1925078388 : Int), (2162078206 : Int), (2614888103 : Int), (3248222580 : Int), (3835390401 : Int), (4022224774 : Int), (264347078 : Int), (604807628 : Int), (770255983 : Int), (1249150122 : Int), (1555081692 : Int), (1996064986 : Int), (2554220882 : Int), (2821834349 : Int), (2952996808 : Int), (3210313671 : Int), (3336571891 : Int), (3584528711 : Int), (113926993 : Int), (338241895 : Int), (666307205 : Int), (773529912 : Int), (1294757372 : Int), (1396182291 : Int), (1695183700 : Int), (1986661051 : Int), (2177026350 : Int), (2456956037 : Int), (2730485921 : Int), (2820302411 : Int), (3259730800 : Int), (3345764771 : Int), (3516065817 : Int), (3600352804 : Int), (4094571909 : Int), (275423344 : Int), (430227734 : Int), (506948616 : Int), (659060556 : Int), (883997877 : Int), (958139571 : Int), (1322822218 : Int), (1537002063 : Int), (1747873779 : Int), (1955562222 : Int), (2024104815 : Int), (2227730452 : Int), (2361852424 : Int), (2428436474 : Int), (2756734187 : Int), (3204031479 : Int), (3329325298 : Int)]
theorem i_roundWords.F_nat {R S : Type} (g : R → Option S) (kk : List Int → Option R) : i_roundWords.F (fun y0 => (kk y0).bind g) = (i_roundWords.F kk).bind g := by
  simp only [i_roundWords.F, grd_bind, cnd_bind, bnd_bind, non_bind]
theorem i_roundWords_ex : ∃ f : Option (List Int), f = i_roundWords.F (fun y0 => some y0) := ⟨_, rfl⟩
/-- Chosen, so that the kernel does not unfold it. -/
noncomputable def i_roundWords : Option (List Int) := Classical.choose i_roundWords_ex
theorem i_roundWords_eq : i_roundWords = i_roundWords.F (fun y0 => some y0) := (Classical.choose_spec i_roundWords_ex)
theorem i_roundWords_nat {S : Type} (g : (List Int) → Option S) : i_roundWords.F (fun y0 => g y0) = (i_roundWords).bind g := by
  rw [i_roundWords_eq]
  exact i_roundWords.F_nat g (fun y0 => some y0)
def i_roundWords.out : (List Int) → CRes := fun a => ⟨encL SV.enc [.vec 64 (.int .u32)] (a, ()), []⟩
def i_roundWords.ps : List PS := []
def i_roundWords.sA : List SA := []
def i_roundWords.fi : FI := FIs i_roundWords.sA (List Int) (fun t => i_roundWords) i_roundWords.out i_roundWords.ps
def i_roundWords.E : Env := ⟨tt, lkF [], 2, 0, [], []⟩
theorem i_roundWords.hok (hE : EOk Tryz.prog (i_roundWords.E)) : HintOk Tryz.prog i_roundWords.E (bodyOf Tryz.f223) (.a) := HintOk.n1 (Q := True) (by kernel_rfl) trivial
theorem i_roundWords.hE : EOk Tryz.prog (i_roundWords.E) := EOk.of ttOk (trivial)
theorem i_roundWords.fok : FOk Tryz.prog 223 i_roundWords.fi :=
  fokS (E := i_roundWords.E) (wy := ⟨[[]], [], []⟩) (h := (fun gs => .a)) (G := fun t g => i_roundWords.F (fun y0 => g y0)) (by kernel_rfl) i_roundWords.hE Tryz.func223 (by kernel_rfl) rfl (Nat.le_refl _) (fun t => HintOk.n1 (by kernel_rfl) (i_roundWords.hok i_roundWords.hE)) (fun t g => i_roundWords_nat g) (fun t => by kernel_rfl)
/-! math_bits.RotateLeft32 -/
def math_bits_RotateLeft32.F {R : Type} (kk : Int → Option R) (x : Int) (k_ : Int) : Option R :=
  grd (gSh (iAnd .u64 (IntKind.wrap .u64 k_) (31 : Int))) <|
  grd (gSh (IntKind.wrap .u64 ((32 : Int) - (iAnd .u64 (IntKind.wrap .u64 k_) (31 : Int))))) <|
  kk (iOr .u32 (iShl .u32 x (iAnd .u64 (IntKind.wrap .u64 k_) (31 : Int))) (iShr .u32 x (IntKind.wrap .u64 ((32 : Int) - (iAnd .u64 (IntKind.wrap .u64 k_) (31 : Int))))))
theorem math_bits_RotateLeft32.F_nat {R S : Type} (g : R → Option S) (kk : Int → Option R) (x : Int) (k_ : Int) : math_bits_RotateLeft32.F (fun y0 => (kk y0).bind g) x k_ = (math_bits_RotateLeft32.F kk x k_).bind g := by
  simp only [math_bits_RotateLeft32.F, grd_bind, cnd_bind, bnd_bind, non_bind]
def math_bits_RotateLeft32 (x : Int) (k_ : Int) : Option Int := math_bits_RotateLeft32.F (fun y0 => some y0) x k_
theorem math_bits_RotateLeft32_nat {S : Type} (g : Int → Option S) (x : Int) (k_ : Int) : math_bits_RotateLeft32.F (fun y0 => g y0) x k_ = (math_bits_RotateLeft32 x k_).bind g := math_bits_RotateLeft32.F_nat g (fun y0 => some y0) x k_
def math_bits_RotateLeft32.out : Int → CRes := fun a => ⟨encL SV.enc [.one (.int .u32)] (a, ()), [encL SC.enc [] (), encL SC.enc [] ()]⟩
def math_bits_RotateLeft32.ps : List PS := [.val [none], .val [none]]
def math_bits_RotateLeft32.sA : List SA := [.v (.one (.int .u32)), .v (.one (.int .i64))]
def math_bits_RotateLeft32.fi : FI := FIs math_bits_RotateLeft32.sA (Int) (fun t => math_bits_RotateLeft32 t.1 t.2.1) math_bits_RotateLeft32.out math_bits_RotateLeft32.ps
def math_bits_RotateLeft32.E : Env := ⟨tt, lkF [], 17, 0, [], []⟩
theorem math_bits_RotateLeft32.hok (hE : EOk Tryz.prog (math_bits_RotateLeft32.E)) : HintOk Tryz.prog math_bits_RotateLeft32.E (bodyOf Tryz.f264) (.a) := HintOk.n1 (Q := True) (by kernel_rfl) trivial
theorem math_bits_RotateLeft32.hE : EOk Tryz.prog (math_bits_RotateLeft32.E) := EOk.of ttOk (trivial)
theorem math_bits_RotateLeft32.fok : FOk Tryz.prog 264 math_bits_RotateLeft32.fi :=
  fokS (E := math_bits_RotateLeft32.E) (wy := ⟨[[none]], [[], []], []⟩) (h := (fun gs => .a)) (G := fun t g => math_bits_RotateLeft32.F (fun y0 => g y0) t.1 t.2.1) (by kernel_rfl) math_bits_RotateLeft32.hE Tryz.func264 (by kernel_rfl) rfl (Nat.le_refl _) (fun t => HintOk.n1 (by kernel_rfl) (math_bits_RotateLeft32.hok math_bits_RotateLeft32.hE)) (fun t g => math_bits_RotateLeft32_nat g t.1 t.2.1) (fun t => by kernel_rfl)
/-! loop.example_g00220_impl.turned -/
def i_turned.F {R : Type} (kk : Int → Option R) (x : Int) (by_ : Int) : Option R :=
  (math_bits_RotateLeft32 x (IntKind.wrap .i64 (0 - by_))).bind fun r =>
  kk r
theorem i_turned.F_nat {R S : Type} (g : R → Option S) (kk : Int → Option R) (x : Int) (by_ : Int) : i_turned.F (fun y0 => (kk y0).bind g) x by_ = (i_turned.F kk x by_).bind g := by
  simp only [i_turned.F, grd_bind, cnd_bind, bnd_bind, non_bind]
def i_turned (x : Int) (by_ : Int) : Option Int := i_turned.F (fun y0 => some y0) x by_
theorem i_turned_nat {S : Type} (g : Int → Option S) (x : Int) (by_ : Int) : i_turned.F (fun y0 => g y0) x by_ = (i_turned x by_).bind g := i_turned.F_nat g (fun y0 => some y0) x by_
def i_turned.out : Int → CRes := fun a => ⟨encL SV.enc [.one (.int .u32)] (a, ()), [encL SC.enc [] (), encL SC.enc [] ()]⟩
def i_turned.ps : List PS := [.val [none], .val [none]]
def i_turned.sA : List SA := [.v (.one (.int .u32)), .v (.one (.int .i64))]
def i_turned.fi : FI := FIs i_turned.sA (Int) (fun t => i_turned t.1 t.2.1) i_turned.out i_turned.ps
def i_turned.E : Env := ⟨tt, lkF [(264, math_bits_RotateLeft32.fi)], 9, 0, [], []⟩
theorem i_turned.hok (hE : EOk Tryz.prog (i_turned.E)) : HintOk Tryz.prog i_turned.E (bodyOf Tryz.f247) (.a) := HintOk.n1 (Q := True) (by kernel_rfl) trivial
theorem i_turned.hE : EOk Tryz.prog (i_turned.E) := EOk.of ttOk (⟨math_bits_RotateLeft32.fok, trivial⟩)
theorem i_turned.fok : FOk Tryz.prog 247 i_turned.fi :=
  fokS (E := i_turned.E) (wy := ⟨[[none]], [[], []], []⟩) (h := (fun gs => .a)) (G := fun t g => i_turned.F (fun y0 => g y0) t.1 t.2.1) (by kernel_rfl) i_turned.hE Tryz.func247 (by kernel_rfl) rfl (Nat.le_refl _) (fun t => HintOk.n1 (by kernel_rfl) (i_turned.hok i_turned.hE)) (fun t g => i_turned_nat g t.1 t.2.1) (fun t => by kernel_rfl)
/-! loop.example_g00220_impl.wordsOf -/
def i_wordsOf.l1 {R : Type} (kke0 : List Int → List Int → Option R) : Nat → ByteArray → Int → List Int → List Int → Option R
  | 0, _, _, _, _ => none
  | n + 1, block, i, l, w =>
    cond (decide (i < (64 : Int))) (
      cond (decide (i < (16 : Int))) (
        grd (gIx (IntKind.wrap .i64 ((4 : Int) * i)) (ByteArray.size block)) <|
        grd (gSh (24 : Int)) <|
        grd (gIx (IntKind.wrap .i64 ((IntKind.wrap .i64 ((4 : Int) * i)) + (1 : Int))) (ByteArray.size block)) <|
        grd (gSh (16 : Int)) <|
        grd (gIx (IntKind.wrap .i64 ((IntKind.wrap .i64 ((4 : Int) * i)) + (2 : Int))) (ByteArray.size block)) <|
        grd (gSh (8 : Int)) <|
        grd (gIx (IntKind.wrap .i64 ((IntKind.wrap .i64 ((4 : Int) * i)) + (3 : Int))) (ByteArray.size block)) <|
        grd (gIx i 64) <|
        i_wordsOf.l1 kke0 n block (IntKind.wrap .i64 (i + (1 : Int))) l (setE (.int .u32 : Kd) w (Int.toNat i) (iOr .u32 (iOr .u32 (iOr .u32 (iShl .u32 (IntKind.wrap .u32 (byteAt block (IntKind.wrap .i64 ((4 : Int) * i)))) (24 : Int)) (iShl .u32 (IntKind.wrap .u32 (byteAt block (IntKind.wrap .i64 ((IntKind.wrap .i64 ((4 : Int) * i)) + (1 : Int))))) (16 : Int))) (iShl .u32 (IntKind.wrap .u32 (byteAt block (IntKind.wrap .i64 ((IntKind.wrap .i64 ((4 : Int) * i)) + (2 : Int))))) (8 : Int))) (IntKind.wrap .u32 (byteAt block (IntKind.wrap .i64 ((IntKind.wrap .i64 ((4 : Int) * i)) + (3 : Int)))))))) (
        grd (gIx (IntKind.wrap .i64 (i - (15 : Int))) 64) <|
        grd (gIx (IntKind.wrap .i64 (i - (2 : Int))) 64) <|
        (i_turned (rdE (.int .u32 : Kd) w (Int.toNat (IntKind.wrap .i64 (i - (15 : Int))))) (7 : Int)).bind fun r =>
        (i_turned (rdE (.int .u32 : Kd) w (Int.toNat (IntKind.wrap .i64 (i - (15 : Int))))) (18 : Int)).bind fun r1 =>
        grd (gSh (3 : Int)) <|
        (i_turned (rdE (.int .u32 : Kd) w (Int.toNat (IntKind.wrap .i64 (i - (2 : Int))))) (17 : Int)).bind fun r2 =>
        (i_turned (rdE (.int .u32 : Kd) w (Int.toNat (IntKind.wrap .i64 (i - (2 : Int))))) (19 : Int)).bind fun r3 =>
        grd (gSh (10 : Int)) <|
        grd (gIx (IntKind.wrap .i64 (i - (16 : Int))) 64) <|
        grd (gIx (IntKind.wrap .i64 (i - (7 : Int))) 64) <|
        grd (gIx i 64) <|
        i_wordsOf.l1 kke0 n block (IntKind.wrap .i64 (i + (1 : Int))) l (setE (.int .u32 : Kd) w (Int.toNat i) (IntKind.wrap .u32 ((IntKind.wrap .u32 ((IntKind.wrap .u32 ((rdE (.int .u32 : Kd) w (Int.toNat (IntKind.wrap .i64 (i - (16 : Int))))) + (iXor .u32 (iXor .u32 r r1) (iShr .u32 (rdE (.int .u32 : Kd) w (Int.toNat (IntKind.wrap .i64 (i - (15 : Int))))) (3 : Int))))) + (rdE (.int .u32 : Kd) w (Int.toNat (IntKind.wrap .i64 (i - (7 : Int))))))) + (iXor .u32 (iXor .u32 r2 r3) (iShr .u32 (rdE (.int .u32 : Kd) w (Int.toNat (IntKind.wrap .i64 (i - (2 : Int))))) (10 : Int)))))))) (kke0 l w)
theorem i_wordsOf.l1_nat {R S : Type} (g : R → Option S) (kke0 : List Int → List Int → Option R) : ∀ (n : Nat) (block : ByteArray) (i : Int) (l : List Int) (w : List Int), i_wordsOf.l1 (fun y0 y1 => (kke0 y0 y1).bind g) n block i l w = (i_wordsOf.l1 kke0 n block i l w).bind g := by
  intro n
  induction n with
  | zero => intros; rfl
  | succ n ih => intros; simp only [i_wordsOf.l1, grd_bind, cnd_bind, bnd_bind, non_bind, ih]
def i_wordsOf.F {R : Type} (kk : List Int → Option R) (block : ByteArray) : Option R :=
  i_wordsOf.l1 (fun l w => kk w) fuel block (0 : Int) (List.replicate 64 (0 : Int)) [(0 : Int), (0 : Int), (0 : Int), (0 : Int), (0 : Int), (0 : Int), (0 : Int), (0 : Int), (0 : Int), (0 : Int), (0 : Int), (0 : Int), (0 : Int), (0 : Int), (0 : Int), (0 : Int), (0 : Int), (0 : Int), (0 : Int), (0 : Int), (0 : Int), (0 : Int), (0 : Int), (0 : Int), (0 : Int), (0 : Int), (0 : Int), (0 : Int), (0 : Int), (0 : Int), (0 : Int), (0 : Int), (0 : Int), (0 : Int), (0 : Int), (0 : Int), (0 : Int), (0 : Int), (0 : Int), (0 : Int), (0 : Int), (0 : Int), (0 : Int), (0 : Int), (0 : Int), (0 : Int), (0 : Int), (0 : Int), (0 : Int), (0 : Int), (0 : Int), (0 : Int), (0 : Int), (0 : Int), (0 : Int), (0 : Int), (0 : Int), (0 : Int), (0 : Int), (0 : Int), (0 : Int), (0 : Int), (0 : Int), (0 : Int)]
theorem i_wordsOf.F_nat {R S : Type} (g : R → Option S) (kk : List Int → Option R) (block : ByteArray) : i_wordsOf.F (fun y0 => (kk y0).bind g) block = (i_wordsOf.F kk block).bind g := by
  simp only [i_wordsOf.F, grd_bind, cnd_bind, bnd_bind, non_bind, ← i_wordsOf.l1_nat]
def i_wordsOf (block : ByteArray) : Option (List Int) := i_wordsOf.F (fun y0 => some y0) block
theorem i_wordsOf_nat {S : Type} (g : (List Int) → Option S) (block : ByteArray) : i_wordsOf.F (fun y0 => g y0) block = (i_wordsOf block).bind g := i_wordsOf.F_nat g (fun y0 => some y0) block
def i_wordsOf.out : (List Int) → CRes := fun a => ⟨encL SV.enc [.vec 64 (.int .u32)] (a, ()), [encL SC.enc [] ()]⟩
def i_wordsOf.ps : List PS := [.val [none]]
def i_wordsOf.sA : List SA := [.v (.one (.str))]
def i_wordsOf.fi : FI := FIs i_wordsOf.sA (List Int) (fun t => i_wordsOf t.1) i_wordsOf.out i_wordsOf.ps
def i_wordsOf.E : Env := ⟨tt, lkF [(247, i_turned.fi)], 87, 0, [], []⟩
def i_wordsOf.sh1 : SK := ⟨[.v (.one (.str)), .v (.one (.aptr 0)), .v (.one (.aptr 1)), .v (.one (.int .i64))], [.vec 64 (.int .u32), .vec 64 (.int .u32)]⟩
def i_wordsOf.sh1e0 : SK := ⟨[.v (.one (.aptr 0)), .v (.one (.aptr 1))], [.vec 64 (.int .u32), .vec 64 (.int .u32)]⟩
def i_wordsOf.ko1 : Ex → List CastAt × List Nat
  | .nrm => ([], [])
  | .ret => ([], [])
  | .ext i => cond (Nat.beq i 0) ([], [2, 3]) ([], [])
def i_wordsOf.G1 (n : Nat) (R : Type) (t : i_wordsOf.sh1.T) (K : Ex → Kp → Option R) : Option R := i_wordsOf.l1 (fun y0 y1 => K (.ext 0) (SK.enc i_wordsOf.sh1e0 (((), (), ()), (y0, y1, ())))) n t.1.1 t.1.2.2.2.1 t.2.1 t.2.2.1
def i_wordsOf.S1 : Sum := ⟨([], [0, 2, 3, 10]), sumF i_wordsOf.sh1 (i_wordsOf.G1 fuel), i_wordsOf.ko1⟩
theorem i_wordsOf.ok1 (hE : EOk Tryz.prog (i_wordsOf.E)) : SumOk Tryz.prog i_wordsOf.E (cB (cR (cL (cR (cR (bodyOf Tryz.f246)))))) (i_wordsOf.S1) := by
  have hh : HintOk Tryz.prog i_wordsOf.E (cB (cB (cR (cL (cR (cR (bodyOf Tryz.f246))))))) (.a) := HintOk.n1 (Q := True) (by kernel_rfl) trivial
  have h := loopS (kin := ([], [0, 2, 3, 10])) (kout := i_wordsOf.ko1) (sh := i_wordsOf.sh1) (F := i_wordsOf.G1) (ops_ok (hE.gv _)) (by kernel_rfl) hh (fun _ _ _ => rfl) (fun n R t K => by kernel_rfl) fuel
  exact HintOk.n1 (c := (cB (cR (cL (cR (cR (bodyOf Tryz.f246))))))) (h := .s (i_wordsOf.S1)) (P := Tryz.prog) (E := i_wordsOf.E) (by kernel_rfl) h
theorem i_wordsOf.hok (hE : EOk Tryz.prog (i_wordsOf.E)) : HintOk Tryz.prog i_wordsOf.E (bodyOf Tryz.f246) (.n (.a) (.n (.a) (.n (.n (.a) (.b (.s (i_wordsOf.S1)))) (.a)))) := HintOk.n1 (Q := (True) ∧ ((True) ∧ (((True) ∧ (SumOk Tryz.prog i_wordsOf.E (cB (cR (cL (cR (cR (bodyOf Tryz.f246)))))) (i_wordsOf.S1))) ∧ (True)))) (by kernel_rfl) ⟨trivial, ⟨trivial, ⟨⟨trivial, (i_wordsOf.ok1 hE)⟩, trivial⟩⟩⟩
theorem i_wordsOf.hE : EOk Tryz.prog (i_wordsOf.E) := EOk.of ttOk (⟨i_turned.fok, trivial⟩)
theorem i_wordsOf.fok : FOk Tryz.prog 246 i_wordsOf.fi :=
  fokS (E := i_wordsOf.E) (wy := ⟨[[]], [[]], []⟩) (h := (fun gs => .n (.a) (.n (.a) (.n (.n (.a) (.b (.s (i_wordsOf.S1)))) (.a))))) (G := fun t g => i_wordsOf.F (fun y0 => g y0) t.1) (by kernel_rfl) i_wordsOf.hE Tryz.func246 (by kernel_rfl) rfl (Nat.le_refl _) (fun t => HintOk.n1 (by kernel_rfl) (i_wordsOf.hok i_wordsOf.hE)) (fun t g => i_wordsOf_nat g t.1) (fun t => by kernel_rfl)
/-! loop.example_g00220_impl.blockHash -/
def i_blockHash.l1 {R : Type} (kke0 : List Int → List Int → List Int → Option R) : Nat → Int → List Int → List Int → List Int → List Int → List Int → Option R
  | 0, _, _, _, _, _, _ => none
  | n + 1, i, words, k_, l, v, w =>
    cond (decide (i < (64 : Int))) (
      grd (gIx (0 : Int) 8) <|
      grd (gIx (1 : Int) 8) <|
      grd (gIx (2 : Int) 8) <|
      grd (gIx (4 : Int) 8) <|
      grd (gIx (5 : Int) 8) <|
      grd (gIx (6 : Int) 8) <|
      grd (gIx (7 : Int) 8) <|
      (i_turned (rdE (.int .u32 : Kd) v (Int.toNat (4 : Int))) (6 : Int)).bind fun r =>
      (i_turned (rdE (.int .u32 : Kd) v (Int.toNat (4 : Int))) (11 : Int)).bind fun r1 =>
      (i_turned (rdE (.int .u32 : Kd) v (Int.toNat (4 : Int))) (25 : Int)).bind fun r2 =>
      grd (gIx i 64) <|
      grd (gIx i 64) <|
      (i_turned (rdE (.int .u32 : Kd) v (Int.toNat (0 : Int))) (2 : Int)).bind fun r3 =>
      (i_turned (rdE (.int .u32 : Kd) v (Int.toNat (0 : Int))) (13 : Int)).bind fun r4 =>
      (i_turned (rdE (.int .u32 : Kd) v (Int.toNat (0 : Int))) (22 : Int)).bind fun r5 =>
      grd (gIx (3 : Int) 8) <|
      i_blockHash.l1 kke0 n (IntKind.wrap .i64 (i + (1 : Int))) words k_ l [IntKind.wrap .u32 ((IntKind.wrap .u32 ((IntKind.wrap .u32 ((IntKind.wrap .u32 ((IntKind.wrap .u32 ((rdE (.int .u32 : Kd) v (Int.toNat (7 : Int))) + (iXor .u32 (iXor .u32 r r1) r2))) + (iOr .u32 (iAnd .u32 (rdE (.int .u32 : Kd) v (Int.toNat (4 : Int))) (rdE (.int .u32 : Kd) v (Int.toNat (5 : Int)))) (iAnd .u32 (iXor .u32 (IntKind.max .u32) (rdE (.int .u32 : Kd) v (Int.toNat (4 : Int)))) (rdE (.int .u32 : Kd) v (Int.toNat (6 : Int))))))) + (rdE (.int .u32 : Kd) k_ (Int.toNat i)))) + (rdE (.int .u32 : Kd) w (Int.toNat i)))) + (IntKind.wrap .u32 ((iXor .u32 (iXor .u32 r3 r4) r5) + (iOr .u32 (iOr .u32 (iAnd .u32 (rdE (.int .u32 : Kd) v (Int.toNat (0 : Int))) (rdE (.int .u32 : Kd) v (Int.toNat (1 : Int)))) (iAnd .u32 (rdE (.int .u32 : Kd) v (Int.toNat (0 : Int))) (rdE (.int .u32 : Kd) v (Int.toNat (2 : Int))))) (iAnd .u32 (rdE (.int .u32 : Kd) v (Int.toNat (1 : Int))) (rdE (.int .u32 : Kd) v (Int.toNat (2 : Int)))))))), rdE (.int .u32 : Kd) v (Int.toNat (0 : Int)), rdE (.int .u32 : Kd) v (Int.toNat (1 : Int)), rdE (.int .u32 : Kd) v (Int.toNat (2 : Int)), IntKind.wrap .u32 ((rdE (.int .u32 : Kd) v (Int.toNat (3 : Int))) + (IntKind.wrap .u32 ((IntKind.wrap .u32 ((IntKind.wrap .u32 ((IntKind.wrap .u32 ((rdE (.int .u32 : Kd) v (Int.toNat (7 : Int))) + (iXor .u32 (iXor .u32 r r1) r2))) + (iOr .u32 (iAnd .u32 (rdE (.int .u32 : Kd) v (Int.toNat (4 : Int))) (rdE (.int .u32 : Kd) v (Int.toNat (5 : Int)))) (iAnd .u32 (iXor .u32 (IntKind.max .u32) (rdE (.int .u32 : Kd) v (Int.toNat (4 : Int)))) (rdE (.int .u32 : Kd) v (Int.toNat (6 : Int))))))) + (rdE (.int .u32 : Kd) k_ (Int.toNat i)))) + (rdE (.int .u32 : Kd) w (Int.toNat i))))), rdE (.int .u32 : Kd) v (Int.toNat (4 : Int)), rdE (.int .u32 : Kd) v (Int.toNat (5 : Int)), rdE (.int .u32 : Kd) v (Int.toNat (6 : Int))] w) (kke0 words l v)
theorem i_blockHash.l1_nat {R S : Type} (g : R → Option S) (kke0 : List Int → List Int → List Int → Option R) : ∀ (n : Nat) (i : Int) (words : List Int) (k_ : List Int) (l : List Int) (v : List Int) (w : List Int), i_blockHash.l1 (fun y0 y1 y2 => (kke0 y0 y1 y2).bind g) n i words k_ l v w = (i_blockHash.l1 kke0 n i words k_ l v w).bind g := by
  intro n
  induction n with
  | zero => intros; rfl
  | succ n ih => intros; simp only [i_blockHash.l1, grd_bind, cnd_bind, bnd_bind, non_bind, ih]
def i_blockHash.l2 {R : Type} (kke2 : List Int → List Int → Option R) : Nat → Int → List Int → List Int → List Int → Option R
  | 0, _, _, _, _ => none
  | n + 1, i, words, l, v =>
    cond (decide (i < (8 : Int))) (
      grd (gIx i 8) <|
      grd (gIx i 8) <|
      grd (gIx i 8) <|
      i_blockHash.l2 kke2 n (IntKind.wrap .i64 (i + (1 : Int))) words l (setE (.int .u32 : Kd) v (Int.toNat i) (IntKind.wrap .u32 ((rdE (.int .u32 : Kd) v (Int.toNat i)) + (rdE (.int .u32 : Kd) words (Int.toNat i)))))) (kke2 l v)
theorem i_blockHash.l2_nat {R S : Type} (g : R → Option S) (kke2 : List Int → List Int → Option R) : ∀ (n : Nat) (i : Int) (words : List Int) (l : List Int) (v : List Int), i_blockHash.l2 (fun y0 y1 => (kke2 y0 y1).bind g) n i words l v = (i_blockHash.l2 kke2 n i words l v).bind g := by
  intro n
  induction n with
  | zero => intros; rfl
  | succ n ih => intros; simp only [i_blockHash.l2, grd_bind, cnd_bind, bnd_bind, non_bind, ih]
def i_blockHash.F {R : Type} (kk : List Int → Option R) (words : List Int) (k_ : List Int) (block : ByteArray) : Option R :=
  (i_wordsOf block).bind fun r =>
  i_blockHash.l1 (fun words1 l v => i_blockHash.l2 (fun l1 v1 => kk v1) fuel (0 : Int) words1 l v) fuel (0 : Int) words k_ (List.replicate 8 (0 : Int)) words r
theorem i_blockHash.F_nat {R S : Type} (g : R → Option S) (kk : List Int → Option R) (words : List Int) (k_ : List Int) (block : ByteArray) : i_blockHash.F (fun y0 => (kk y0).bind g) words k_ block = (i_blockHash.F kk words k_ block).bind g := by
  simp only [i_blockHash.F, grd_bind, cnd_bind, bnd_bind, non_bind, ← i_blockHash.l1_nat, ← i_blockHash.l2_nat]
theorem i_blockHash_ex : ∃ f : List Int → List Int → ByteArray → Option (List Int), f = fun (words : List Int) (k_ : List Int) (block : ByteArray) => i_blockHash.F (fun y0 => some y0) words k_ block := ⟨_, rfl⟩
/-- Chosen, so that the kernel does not unfold it. -/
noncomputable def i_blockHash : List Int → List Int → ByteArray → Option (List Int) := Classical.choose i_blockHash_ex
theorem i_blockHash_eq (words : List Int) (k_ : List Int) (block : ByteArray) : i_blockHash words k_ block = i_blockHash.F (fun y0 => some y0) words k_ block := (congrFun (congrFun (congrFun (Classical.choose_spec i_blockHash_ex) words) k_) block)
theorem i_blockHash_nat {S : Type} (g : (List Int) → Option S) (words : List Int) (k_ : List Int) (block : ByteArray) : i_blockHash.F (fun y0 => g y0) words k_ block = (i_blockHash words k_ block).bind g := by
  rw [i_blockHash_eq]
  exact i_blockHash.F_nat g (fun y0 => some y0) words k_ block
def i_blockHash.out : (List Int) → CRes := fun a => ⟨encL SV.enc [.vec 8 (.int .u32)] (a, ()), [encL SC.enc [] (), encL SC.enc [] (), encL SC.enc [] ()]⟩
def i_blockHash.ps : List PS := [.vec, .vec, .val [none]]
def i_blockHash.sA : List SA := [.v (.vec 8 (.int .u32)), .v (.vec 64 (.int .u32)), .v (.one (.str))]
def i_blockHash.fi : FI := FIs i_blockHash.sA (List Int) (fun t => i_blockHash t.1 t.2.1 t.2.2.1) i_blockHash.out i_blockHash.ps
def i_blockHash.E : Env := ⟨tt, lkF [(246, i_wordsOf.fi), (247, i_turned.fi)], 113, 0, [], []⟩
def i_blockHash.sh1 : SK := ⟨[.v (.one (.aptr 0)), .v (.one (.aptr 1)), .v (.one (.aptr 2)), .v (.one (.aptr 3)), .v (.one (.aptr 4)), .v (.one (.int .i64))], [.vec 8 (.int .u32), .vec 64 (.int .u32), .vec 8 (.int .u32), .vec 8 (.int .u32), .vec 64 (.int .u32)]⟩
def i_blockHash.sh1e0 : SK := ⟨[.v (.one (.aptr 0)), .v (.one (.aptr 1)), .v (.one (.aptr 2))], [.vec 8 (.int .u32), .vec 8 (.int .u32), .vec 8 (.int .u32)]⟩
def i_blockHash.ko1 : Ex → List CastAt × List Nat
  | .nrm => ([], [])
  | .ret => ([], [])
  | .ext i => cond (Nat.beq i 0) ([], [3, 6, 7]) ([], [])
def i_blockHash.G1 (n : Nat) (R : Type) (t : i_blockHash.sh1.T) (K : Ex → Kp → Option R) : Option R := i_blockHash.l1 (fun y0 y1 y2 => K (.ext 0) (SK.enc i_blockHash.sh1e0 (((), (), (), ()), (y0, y1, y2, ())))) n t.1.2.2.2.2.2.1 t.2.1 t.2.2.1 t.2.2.2.1 t.2.2.2.2.1 t.2.2.2.2.2.1
def i_blockHash.S1 : Sum := ⟨([], [3, 4, 6, 7, 8, 22]), sumF i_blockHash.sh1 (i_blockHash.G1 fuel), i_blockHash.ko1⟩
theorem i_blockHash.ok1 (hE : EOk Tryz.prog (i_blockHash.E)) : SumOk Tryz.prog i_blockHash.E (cB (cR (cL (cR (cR (bodyOf Tryz.f224)))))) (i_blockHash.S1) := by
  have hh : HintOk Tryz.prog i_blockHash.E (cB (cB (cR (cL (cR (cR (bodyOf Tryz.f224))))))) (.a) := HintOk.n1 (Q := True) (by kernel_rfl) trivial
  have h := loopS (kin := ([], [3, 4, 6, 7, 8, 22])) (kout := i_blockHash.ko1) (sh := i_blockHash.sh1) (F := i_blockHash.G1) (ops_ok (hE.gv _)) (by kernel_rfl) hh (fun _ _ _ => rfl) (fun n R t K => by kernel_rfl) fuel
  exact HintOk.n1 (c := (cB (cR (cL (cR (cR (bodyOf Tryz.f224))))))) (h := .s (i_blockHash.S1)) (P := Tryz.prog) (E := i_blockHash.E) (by kernel_rfl) h
def i_blockHash.sh2 : SK := ⟨[.v (.one (.aptr 0)), .v (.one (.aptr 1)), .v (.one (.aptr 2)), .v (.one (.int .i64))], [.vec 8 (.int .u32), .vec 8 (.int .u32), .vec 8 (.int .u32)]⟩
def i_blockHash.sh2e2 : SK := ⟨[.v (.one (.aptr 0)), .v (.one (.aptr 1))], [.vec 8 (.int .u32), .vec 8 (.int .u32)]⟩
def i_blockHash.ko2 : Ex → List CastAt × List Nat
  | .nrm => ([], [])
  | .ret => ([], [])
  | .ext i => cond (Nat.beq i 2) ([], [6, 7]) ([], [])
def i_blockHash.G2 (n : Nat) (R : Type) (t : i_blockHash.sh2.T) (K : Ex → Kp → Option R) : Option R := i_blockHash.l2 (fun y0 y1 => K (.ext 2) (SK.enc i_blockHash.sh2e2 (((), (), ()), (y0, y1, ())))) n t.1.2.2.2.1 t.2.1 t.2.2.1 t.2.2.2.1
def i_blockHash.S2 : Sum := ⟨([], [3, 6, 7, 100]), sumF i_blockHash.sh2 (i_blockHash.G2 fuel), i_blockHash.ko2⟩
theorem i_blockHash.ok2 (hE : EOk Tryz.prog (i_blockHash.E)) : SumOk Tryz.prog i_blockHash.E (cB (cR (cL (cR (cR (cR (bodyOf Tryz.f224))))))) (i_blockHash.S2) := by
  have hh : HintOk Tryz.prog i_blockHash.E (cB (cB (cR (cL (cR (cR (cR (bodyOf Tryz.f224)))))))) (.a) := HintOk.n1 (Q := True) (by kernel_rfl) trivial
  have h := loopS (kin := ([], [3, 6, 7, 100])) (kout := i_blockHash.ko2) (sh := i_blockHash.sh2) (F := i_blockHash.G2) (ops_ok (hE.gv _)) (by kernel_rfl) hh (fun _ _ _ => rfl) (fun n R t K => by kernel_rfl) fuel
  exact HintOk.n1 (c := (cB (cR (cL (cR (cR (cR (bodyOf Tryz.f224)))))))) (h := .s (i_blockHash.S2)) (P := Tryz.prog) (E := i_blockHash.E) (by kernel_rfl) h
theorem i_blockHash.hok (hE : EOk Tryz.prog (i_blockHash.E)) : HintOk Tryz.prog i_blockHash.E (bodyOf Tryz.f224) (.n (.a) (.n (.a) (.n (.n (.a) (.b (.s (i_blockHash.S1)))) (.n (.n (.a) (.b (.s (i_blockHash.S2)))) (.a))))) := HintOk.n1 (Q := (True) ∧ ((True) ∧ (((True) ∧ (SumOk Tryz.prog i_blockHash.E (cB (cR (cL (cR (cR (bodyOf Tryz.f224)))))) (i_blockHash.S1))) ∧ (((True) ∧ (SumOk Tryz.prog i_blockHash.E (cB (cR (cL (cR (cR (cR (bodyOf Tryz.f224))))))) (i_blockHash.S2))) ∧ (True))))) (by kernel_rfl) ⟨trivial, ⟨trivial, ⟨⟨trivial, (i_blockHash.ok1 hE)⟩, ⟨⟨trivial, (i_blockHash.ok2 hE)⟩, trivial⟩⟩⟩⟩
theorem i_blockHash.hE : EOk Tryz.prog (i_blockHash.E) := EOk.of ttOk (⟨i_wordsOf.fok, ⟨i_turned.fok, trivial⟩⟩)
theorem i_blockHash.fok : FOk Tryz.prog 224 i_blockHash.fi :=
  fokS (E := i_blockHash.E) (wy := ⟨[[]], [[], [], []], []⟩) (h := (fun gs => .n (.a) (.n (.a) (.n (.n (.a) (.b (.s (i_blockHash.S1)))) (.n (.n (.a) (.b (.s (i_blockHash.S2)))) (.a)))))) (G := fun t g => i_blockHash.F (fun y0 => g y0) t.1 t.2.1 t.2.2.1) (by kernel_rfl) i_blockHash.hE Tryz.func224 (by kernel_rfl) rfl (Nat.le_refl _) (fun t => HintOk.n1 (by kernel_rfl) (i_blockHash.hok i_blockHash.hE)) (fun t g => i_blockHash_nat g t.1 t.2.1 t.2.2.1) (fun t => by kernel_rfl)
/-! loop.example_g00220_impl.hash -/
def i_hash.l1 {R : Type} (kke0 : List Int → Option R) : Nat → ByteArray → Int → List Int → List Int → Option R
  | 0, _, _, _, _ => none
  | n + 1, all, at_, words, k_ =>
    cond (decide (at_ < (ByteArray.size all : Int))) (
      grd (gSl at_ (IntKind.wrap .i64 (at_ + (64 : Int))) (ByteArray.size all)) <|
      (i_blockHash words k_ (cut all at_ (IntKind.wrap .i64 (at_ + (64 : Int))))).bind fun r =>
      i_hash.l1 kke0 n all (IntKind.wrap .i64 (at_ + (64 : Int))) r k_) (kke0 words)
theorem i_hash.l1_nat {R S : Type} (g : R → Option S) (kke0 : List Int → Option R) : ∀ (n : Nat) (all : ByteArray) (at_ : Int) (words : List Int) (k_ : List Int), i_hash.l1 (fun y0 => (kke0 y0).bind g) n all at_ words k_ = (i_hash.l1 kke0 n all at_ words k_).bind g := by
  intro n
  induction n with
  | zero => intros; rfl
  | succ n ih => intros; simp only [i_hash.l1, grd_bind, cnd_bind, bnd_bind, non_bind, ih]
def i_hash.l2 {R : Type} (kke2 : ByteArray → Option R) : Nat → ByteArray → List Int → Int → Option R
  | 0, _, _, _ => none
  | n + 1, out, l, i =>
    cond (decide (i < (8 : Int))) (
      grd (gIx i 8) <|
      (i_number (IntKind.wrap .i64 (rdE (.int .u32 : Kd) l (Int.toNat i))) (4 : Int)).bind fun r =>
      grd (gCat out r) <|
      i_hash.l2 kke2 n (out ++ r) l (IntKind.wrap .i64 (i + (1 : Int)))) (kke2 out)
theorem i_hash.l2_nat {R S : Type} (g : R → Option S) (kke2 : ByteArray → Option R) : ∀ (n : Nat) (out : ByteArray) (l : List Int) (i : Int), i_hash.l2 (fun y0 => (kke2 y0).bind g) n out l i = (i_hash.l2 kke2 n out l i).bind g := by
  intro n
  induction n with
  | zero => intros; rfl
  | succ n ih => intros; simp only [i_hash.l2, grd_bind, cnd_bind, bnd_bind, non_bind, ih]
def i_hash.F {R : Type} (kk : ByteArray → Option R) (s : ByteArray) : Option R :=
  grd (gCat s (⟨#[128]⟩ : ByteArray)) <|
  grd (gNz (64 : Int)) <|
  grd (gNz (64 : Int)) <|
  (strings_Repeat (⟨#[0]⟩ : ByteArray) (Int.tmod (IntKind.wrap .i64 ((119 : Int) - (Int.tmod (ByteArray.size s : Int) (64 : Int)))) (64 : Int))).bind fun r =>
  grd (gCat (s ++ (⟨#[128]⟩ : ByteArray)) r) <|
  (i_number (IntKind.wrap .i64 ((8 : Int) * (ByteArray.size s : Int))) (8 : Int)).bind fun r1 =>
  grd (gCat ((s ++ (⟨#[128]⟩ : ByteArray)) ++ r) r1) <|
  (i_hashWords).bind fun r2 =>
  (i_roundWords).bind fun r3 =>
  i_hash.l1 (fun words => i_hash.l2 (fun out => kk out) fuel ByteArray.empty words (0 : Int)) fuel (((s ++ (⟨#[128]⟩ : ByteArray)) ++ r) ++ r1) (0 : Int) r2 r3
theorem i_hash.F_nat {R S : Type} (g : R → Option S) (kk : ByteArray → Option R) (s : ByteArray) : i_hash.F (fun y0 => (kk y0).bind g) s = (i_hash.F kk s).bind g := by
  simp only [i_hash.F, grd_bind, cnd_bind, bnd_bind, non_bind, ← i_hash.l1_nat, ← i_hash.l2_nat]
theorem i_hash_ex : ∃ f : ByteArray → Option ByteArray, f = fun (s : ByteArray) => i_hash.F (fun y0 => some y0) s := ⟨_, rfl⟩
/-- Chosen, so that the kernel does not unfold it. -/
noncomputable def i_hash : ByteArray → Option ByteArray := Classical.choose i_hash_ex
theorem i_hash_eq (s : ByteArray) : i_hash s = i_hash.F (fun y0 => some y0) s := (congrFun (Classical.choose_spec i_hash_ex) s)
theorem i_hash_nat {S : Type} (g : ByteArray → Option S) (s : ByteArray) : i_hash.F (fun y0 => g y0) s = (i_hash s).bind g := by
  rw [i_hash_eq]
  exact i_hash.F_nat g (fun y0 => some y0) s
def i_hash.out : ByteArray → CRes := fun a => ⟨encL SV.enc [.one (.str)] (a, ()), [encL SC.enc [] ()]⟩
def i_hash.ps : List PS := [.val [none]]
def i_hash.sA : List SA := [.v (.one (.str))]
def i_hash.fi : FI := FIs i_hash.sA (ByteArray) (fun t => i_hash t.1) i_hash.out i_hash.ps
def i_hash.E : Env := ⟨tt, lkF [(102, i_number.fi), (221, strings_Repeat.fi), (222, i_hashWords.fi), (223, i_roundWords.fi), (224, i_blockHash.fi)], 51, 0, [], []⟩
def i_hash.sh1 : SK := ⟨[.v (.one (.str)), .v (.one (.aptr 0)), .v (.one (.aptr 1)), .v (.one (.int .i64))], [.vec 8 (.int .u32), .vec 64 (.int .u32)]⟩
def i_hash.sh1e0 : SK := ⟨[.v (.one (.aptr 0))], [.vec 8 (.int .u32)]⟩
def i_hash.ko1 : Ex → List CastAt × List Nat
  | .nrm => ([], [])
  | .ret => ([], [])
  | .ext i => cond (Nat.beq i 0) ([], [4]) ([], [])
def i_hash.G1 (n : Nat) (R : Type) (t : i_hash.sh1.T) (K : Ex → Kp → Option R) : Option R := i_hash.l1 (fun y0 => K (.ext 0) (SK.enc i_hash.sh1e0 (((), ()), (y0, ())))) n t.1.1 t.1.2.2.2.1 t.2.1 t.2.2.1
def i_hash.S1 : Sum := ⟨([], [3, 4, 5, 6]), sumF i_hash.sh1 (i_hash.G1 fuel), i_hash.ko1⟩
theorem i_hash.ok1 (hE : EOk Tryz.prog (i_hash.E)) : SumOk Tryz.prog i_hash.E (cB (cR (cL (cR (cR (cR (bodyOf Tryz.f202))))))) (i_hash.S1) := by
  have hh : HintOk Tryz.prog i_hash.E (cB (cB (cR (cL (cR (cR (cR (bodyOf Tryz.f202)))))))) (.a) := HintOk.n1 (Q := True) (by kernel_rfl) trivial
  have h := loopS (kin := ([], [3, 4, 5, 6])) (kout := i_hash.ko1) (sh := i_hash.sh1) (F := i_hash.G1) (ops_ok (hE.gv _)) (by kernel_rfl) hh (fun _ _ _ => rfl) (fun n R t K => by kernel_rfl) fuel
  exact HintOk.n1 (c := (cB (cR (cL (cR (cR (cR (bodyOf Tryz.f202)))))))) (h := .s (i_hash.S1)) (P := Tryz.prog) (E := i_hash.E) (by kernel_rfl) h
def i_hash.sh2 : SK := ⟨[.v (.one (.str)), .v (.vec 8 (.int .u32)), .v (.one (.int .i64))], []⟩
def i_hash.sh2e2 : SK := ⟨[.v (.one (.str))], []⟩
def i_hash.ko2 : Ex → List CastAt × List Nat
  | .nrm => ([], [])
  | .ret => ([], [])
  | .ext i => cond (Nat.beq i 2) ([], [7]) ([], [])
def i_hash.G2 (n : Nat) (R : Type) (t : i_hash.sh2.T) (K : Ex → Kp → Option R) : Option R := i_hash.l2 (fun y0 => K (.ext 2) (SK.enc i_hash.sh2e2 ((y0, ()), ()))) n t.1.1 t.1.2.1 t.1.2.2.1
def i_hash.S2 : Sum := ⟨([], [7, 40, 41]), sumF i_hash.sh2 (i_hash.G2 fuel), i_hash.ko2⟩
theorem i_hash.ok2 (hE : EOk Tryz.prog (i_hash.E)) : SumOk Tryz.prog i_hash.E (cB (cR (cL (cR (cR (cR (cR (cR (bodyOf Tryz.f202))))))))) (i_hash.S2) := by
  have hh : HintOk Tryz.prog i_hash.E (cB (cB (cR (cL (cR (cR (cR (cR (cR (bodyOf Tryz.f202)))))))))) (.a) := HintOk.n1 (Q := True) (by kernel_rfl) trivial
  have h := loopS (kin := ([], [7, 40, 41])) (kout := i_hash.ko2) (sh := i_hash.sh2) (F := i_hash.G2) (ops_ok (hE.gv _)) (by kernel_rfl) hh (fun _ _ _ => rfl) (fun n R t K => by kernel_rfl) fuel
  exact HintOk.n1 (c := (cB (cR (cL (cR (cR (cR (cR (cR (bodyOf Tryz.f202)))))))))) (h := .s (i_hash.S2)) (P := Tryz.prog) (E := i_hash.E) (by kernel_rfl) h
theorem i_hash.hok (hE : EOk Tryz.prog (i_hash.E)) : HintOk Tryz.prog i_hash.E (bodyOf Tryz.f202) (.n (.a) (.n (.a) (.n (.a) (.n (.n (.a) (.b (.s (i_hash.S1)))) (.n (.a) (.n (.n (.a) (.b (.s (i_hash.S2)))) (.a))))))) := HintOk.n1 (Q := (True) ∧ ((True) ∧ ((True) ∧ (((True) ∧ (SumOk Tryz.prog i_hash.E (cB (cR (cL (cR (cR (cR (bodyOf Tryz.f202))))))) (i_hash.S1))) ∧ ((True) ∧ (((True) ∧ (SumOk Tryz.prog i_hash.E (cB (cR (cL (cR (cR (cR (cR (cR (bodyOf Tryz.f202))))))))) (i_hash.S2))) ∧ (True))))))) (by kernel_rfl) ⟨trivial, ⟨trivial, ⟨trivial, ⟨⟨trivial, (i_hash.ok1 hE)⟩, ⟨trivial, ⟨⟨trivial, (i_hash.ok2 hE)⟩, trivial⟩⟩⟩⟩⟩⟩
theorem i_hash.hE : EOk Tryz.prog (i_hash.E) := EOk.of ttOk (⟨i_number.fok, ⟨strings_Repeat.fok, ⟨i_hashWords.fok, ⟨i_roundWords.fok, ⟨i_blockHash.fok, trivial⟩⟩⟩⟩⟩)
theorem i_hash.fok : FOk Tryz.prog 202 i_hash.fi :=
  fokS (E := i_hash.E) (wy := ⟨[[none]], [[]], []⟩) (h := (fun gs => .n (.a) (.n (.a) (.n (.a) (.n (.n (.a) (.b (.s (i_hash.S1)))) (.n (.a) (.n (.n (.a) (.b (.s (i_hash.S2)))) (.a)))))))) (G := fun t g => i_hash.F (fun y0 => g y0) t.1) (by kernel_rfl) i_hash.hE Tryz.func202 (by kernel_rfl) rfl (Nat.le_refl _) (fun t => HintOk.n1 (by kernel_rfl) (i_hash.hok i_hash.hE)) (fun t g => i_hash_nat g t.1) (fun t => by kernel_rfl)
/-! loop.example_g00220_impl.digits -/
def i_digits.l1 {R : Type} (kke0 : Int → List Int → Option R) : Nat → Int → ByteArray → Int → List Int → Option R
  | 0, _, _, _, _ => none
  | n + 1, sum, h, i, out =>
    cond (decide (i < (8 : Int))) (
      grd (gIx i (ByteArray.size h)) <|
      grd (gSh (4 : Int)) <|
      grd (gIx i (ByteArray.size h)) <|
      grd (gRm (((List.length out) + (List.length [IntKind.wrap .i64 (iShr .u8 (byteAt h i) (4 : Int)), IntKind.wrap .i64 (iAnd .u8 (byteAt h i) (15 : Int))])) * 8)) <|
      i_digits.l1 kke0 n (IntKind.wrap .i64 (sum + (IntKind.wrap .i64 ((IntKind.wrap .i64 ((30 : Int) - (IntKind.wrap .i64 (iShr .u8 (byteAt h i) (4 : Int))))) - (IntKind.wrap .i64 (iAnd .u8 (byteAt h i) (15 : Int))))))) h (IntKind.wrap .i64 (i + (1 : Int))) (out ++ [IntKind.wrap .i64 (iShr .u8 (byteAt h i) (4 : Int)), IntKind.wrap .i64 (iAnd .u8 (byteAt h i) (15 : Int))])) (kke0 sum out)
theorem i_digits.l1_nat {R S : Type} (g : R → Option S) (kke0 : Int → List Int → Option R) : ∀ (n : Nat) (sum : Int) (h : ByteArray) (i : Int) (out : List Int), i_digits.l1 (fun y0 y1 => (kke0 y0 y1).bind g) n sum h i out = (i_digits.l1 kke0 n sum h i out).bind g := by
  intro n
  induction n with
  | zero => intros; rfl
  | succ n ih => intros; simp only [i_digits.l1, grd_bind, cnd_bind, bnd_bind, non_bind, ih]
def i_digits.F {R : Type} (kk : List Int → Option R) (msg : ByteArray) : Option R :=
  (i_hash msg).bind fun r =>
  i_digits.l1 (fun sum out =>
    grd (gNz (16 : Int)) <|
    grd (gNz (16 : Int)) <|
    grd (gRm (((List.length out) + (List.length [IntKind.wrap .i64 (Int.tdiv sum (16 : Int)), Int.tmod sum (16 : Int)])) * 8)) <|
    kk (out ++ [IntKind.wrap .i64 (Int.tdiv sum (16 : Int)), Int.tmod sum (16 : Int)])) fuel (0 : Int) r (0 : Int) ([] : List Int)
theorem i_digits.F_nat {R S : Type} (g : R → Option S) (kk : List Int → Option R) (msg : ByteArray) : i_digits.F (fun y0 => (kk y0).bind g) msg = (i_digits.F kk msg).bind g := by
  simp only [i_digits.F, grd_bind, cnd_bind, bnd_bind, non_bind, ← i_digits.l1_nat]
def i_digits (msg : ByteArray) : Option (List Int) := i_digits.F (fun y0 => some y0) msg
theorem i_digits_nat {S : Type} (g : (List Int) → Option S) (msg : ByteArray) : i_digits.F (fun y0 => g y0) msg = (i_digits msg).bind g := i_digits.F_nat g (fun y0 => some y0) msg
def i_digits.out : (List Int) → CRes := fun a => ⟨encL SV.enc [.one (.own [] (.int .i64) true)] (a, ()), [encL SC.enc [] ()]⟩
def i_digits.ps : List PS := [.val [none]]
def i_digits.sA : List SA := [.v (.one (.str))]
def i_digits.fi : FI := FIs i_digits.sA (List Int) (fun t => i_digits t.1) i_digits.out i_digits.ps
def i_digits.E : Env := ⟨tt, lkF [(202, i_hash.fi)], 44, 0, [], []⟩
def i_digits.sh1 : SK := ⟨[.v (.one (.slo 0)), .v (.one (.int .i64)), .v (.one (.str)), .v (.one (.int .i64))], [.arr (.int .i64) [] true]⟩
def i_digits.sh1e0 : SK := ⟨[.v (.one (.slo 0)), .v (.one (.int .i64))], [.arr (.int .i64) [] true]⟩
def i_digits.ko1 : Ex → List CastAt × List Nat
  | .nrm => ([], [])
  | .ret => ([], [])
  | .ext i => cond (Nat.beq i 0) ([], [3, 4]) ([], [])
def i_digits.G1 (n : Nat) (R : Type) (t : i_digits.sh1.T) (K : Ex → Kp → Option R) : Option R := i_digits.l1 (fun y0 y1 => K (.ext 0) (SK.enc i_digits.sh1e0 (((), y0, ()), (y1, ())))) n t.1.2.1 t.1.2.2.1 t.1.2.2.2.1 t.2.1
def i_digits.S1 : Sum := ⟨([], [3, 4, 5, 12]), sumF i_digits.sh1 (i_digits.G1 fuel), i_digits.ko1⟩
theorem i_digits.ok1 (hE : EOk Tryz.prog (i_digits.E)) : SumOk Tryz.prog i_digits.E (cB (cR (cL (cR (cR (cR (bodyOf Tryz.f164))))))) (i_digits.S1) := by
  have hh : HintOk Tryz.prog i_digits.E (cB (cB (cR (cL (cR (cR (cR (bodyOf Tryz.f164)))))))) (.a) := HintOk.n1 (Q := True) (by kernel_rfl) trivial
  have h := loopS (kin := ([], [3, 4, 5, 12])) (kout := i_digits.ko1) (sh := i_digits.sh1) (F := i_digits.G1) (ops_ok (hE.gv _)) (by kernel_rfl) hh (fun _ _ _ => rfl) (fun n R t K => by kernel_rfl) fuel
  exact HintOk.n1 (c := (cB (cR (cL (cR (cR (cR (bodyOf Tryz.f164)))))))) (h := .s (i_digits.S1)) (P := Tryz.prog) (E := i_digits.E) (by kernel_rfl) h
theorem i_digits.hok (hE : EOk Tryz.prog (i_digits.E)) : HintOk Tryz.prog i_digits.E (bodyOf Tryz.f164) (.n (.a) (.n (.a) (.n (.a) (.n (.n (.a) (.b (.s (i_digits.S1)))) (.a))))) := HintOk.n1 (Q := (True) ∧ ((True) ∧ ((True) ∧ (((True) ∧ (SumOk Tryz.prog i_digits.E (cB (cR (cL (cR (cR (cR (bodyOf Tryz.f164))))))) (i_digits.S1))) ∧ (True))))) (by kernel_rfl) ⟨trivial, ⟨trivial, ⟨trivial, ⟨⟨trivial, (i_digits.ok1 hE)⟩, trivial⟩⟩⟩⟩
theorem i_digits.hE : EOk Tryz.prog (i_digits.E) := EOk.of ttOk (⟨i_hash.fok, trivial⟩)
theorem i_digits.fok : FOk Tryz.prog 164 i_digits.fi :=
  fokS (E := i_digits.E) (wy := ⟨[[some ((.int .i64), true)]], [[]], []⟩) (h := (fun gs => .n (.a) (.n (.a) (.n (.a) (.n (.n (.a) (.b (.s (i_digits.S1)))) (.a)))))) (G := fun t g => i_digits.F (fun y0 => g y0) t.1) (by kernel_rfl) i_digits.hE Tryz.func164 (by kernel_rfl) rfl (Nat.le_refl _) (fun t => HintOk.n1 (by kernel_rfl) (i_digits.hok i_digits.hE)) (fun t g => i_digits_nat g t.1) (fun t => by kernel_rfl)
/-! loop.example_g00220_impl.chain -/
def i_chain.l1 {R : Type} (kke0 : ByteArray → Option R) : Nat → ByteArray → Int → Int → Int → Option R
  | 0, _, _, _, _ => none
  | n + 1, start, from_, steps, i =>
    cond (decide (i < (IntKind.wrap .i64 (from_ + steps)))) (
      (i_number i (1 : Int)).bind fun r =>
      grd (gCat (⟨#[3]⟩ : ByteArray) r) <|
      grd (gCat ((⟨#[3]⟩ : ByteArray) ++ r) start) <|
      (i_hash (((⟨#[3]⟩ : ByteArray) ++ r) ++ start)).bind fun r1 =>
      i_chain.l1 kke0 n r1 from_ steps (IntKind.wrap .i64 (i + (1 : Int)))) (kke0 start)
theorem i_chain.l1_nat {R S : Type} (g : R → Option S) (kke0 : ByteArray → Option R) : ∀ (n : Nat) (start : ByteArray) (from_ : Int) (steps : Int) (i : Int), i_chain.l1 (fun y0 => (kke0 y0).bind g) n start from_ steps i = (i_chain.l1 kke0 n start from_ steps i).bind g := by
  intro n
  induction n with
  | zero => intros; rfl
  | succ n ih => intros; simp only [i_chain.l1, grd_bind, cnd_bind, bnd_bind, non_bind, ih]
def i_chain.F {R : Type} (kk : ByteArray → Option R) (start : ByteArray) (from_ : Int) (steps : Int) : Option R :=
  i_chain.l1 (fun start1 => kk start1) fuel start from_ steps from_
theorem i_chain.F_nat {R S : Type} (g : R → Option S) (kk : ByteArray → Option R) (start : ByteArray) (from_ : Int) (steps : Int) : i_chain.F (fun y0 => (kk y0).bind g) start from_ steps = (i_chain.F kk start from_ steps).bind g := by
  simp only [i_chain.F, grd_bind, cnd_bind, bnd_bind, non_bind, ← i_chain.l1_nat]
def i_chain (start : ByteArray) (from_ : Int) (steps : Int) : Option ByteArray := i_chain.F (fun y0 => some y0) start from_ steps
theorem i_chain_nat {S : Type} (g : ByteArray → Option S) (start : ByteArray) (from_ : Int) (steps : Int) : i_chain.F (fun y0 => g y0) start from_ steps = (i_chain start from_ steps).bind g := i_chain.F_nat g (fun y0 => some y0) start from_ steps
def i_chain.out : ByteArray → CRes := fun a => ⟨encL SV.enc [.one (.str)] (a, ()), [encL SC.enc [] (), encL SC.enc [] (), encL SC.enc [] ()]⟩
def i_chain.ps : List PS := [.val [none], .val [none], .val [none]]
def i_chain.sA : List SA := [.v (.one (.str)), .v (.one (.int .i64)), .v (.one (.int .i64))]
def i_chain.fi : FI := FIs i_chain.sA (ByteArray) (fun t => i_chain t.1 t.2.1 t.2.2.1) i_chain.out i_chain.ps
def i_chain.E : Env := ⟨tt, lkF [(102, i_number.fi), (202, i_hash.fi)], 23, 0, [], []⟩
def i_chain.sh1 : SK := ⟨[.v (.one (.str)), .v (.one (.int .i64)), .v (.one (.int .i64)), .v (.one (.int .i64))], []⟩
def i_chain.sh1e0 : SK := ⟨[.v (.one (.str))], []⟩
def i_chain.ko1 : Ex → List CastAt × List Nat
  | .nrm => ([], [])
  | .ret => ([], [])
  | .ext i => cond (Nat.beq i 0) ([], [0]) ([], [])
def i_chain.G1 (n : Nat) (R : Type) (t : i_chain.sh1.T) (K : Ex → Kp → Option R) : Option R := i_chain.l1 (fun y0 => K (.ext 0) (SK.enc i_chain.sh1e0 ((y0, ()), ()))) n t.1.1 t.1.2.1 t.1.2.2.1 t.1.2.2.2.1
def i_chain.S1 : Sum := ⟨([], [0, 1, 2, 7]), sumF i_chain.sh1 (i_chain.G1 fuel), i_chain.ko1⟩
theorem i_chain.ok1 (hE : EOk Tryz.prog (i_chain.E)) : SumOk Tryz.prog i_chain.E (cB (cR (cL (cR (bodyOf Tryz.f165))))) (i_chain.S1) := by
  have hh : HintOk Tryz.prog i_chain.E (cB (cB (cR (cL (cR (bodyOf Tryz.f165)))))) (.a) := HintOk.n1 (Q := True) (by kernel_rfl) trivial
  have h := loopS (kin := ([], [0, 1, 2, 7])) (kout := i_chain.ko1) (sh := i_chain.sh1) (F := i_chain.G1) (ops_ok (hE.gv _)) (by kernel_rfl) hh (fun _ _ _ => rfl) (fun n R t K => by kernel_rfl) fuel
  exact HintOk.n1 (c := (cB (cR (cL (cR (bodyOf Tryz.f165)))))) (h := .s (i_chain.S1)) (P := Tryz.prog) (E := i_chain.E) (by kernel_rfl) h
theorem i_chain.hok (hE : EOk Tryz.prog (i_chain.E)) : HintOk Tryz.prog i_chain.E (bodyOf Tryz.f165) (.n (.a) (.n (.n (.a) (.b (.s (i_chain.S1)))) (.a))) := HintOk.n1 (Q := (True) ∧ (((True) ∧ (SumOk Tryz.prog i_chain.E (cB (cR (cL (cR (bodyOf Tryz.f165))))) (i_chain.S1))) ∧ (True))) (by kernel_rfl) ⟨trivial, ⟨⟨trivial, (i_chain.ok1 hE)⟩, trivial⟩⟩
theorem i_chain.hE : EOk Tryz.prog (i_chain.E) := EOk.of ttOk (⟨i_number.fok, ⟨i_hash.fok, trivial⟩⟩)
theorem i_chain.fok : FOk Tryz.prog 165 i_chain.fi :=
  fokS (E := i_chain.E) (wy := ⟨[[none]], [[], [], []], []⟩) (h := (fun gs => .n (.a) (.n (.n (.a) (.b (.s (i_chain.S1)))) (.a)))) (G := fun t g => i_chain.F (fun y0 => g y0) t.1 t.2.1 t.2.2.1) (by kernel_rfl) i_chain.hE Tryz.func165 (by kernel_rfl) rfl (Nat.le_refl _) (fun t => HintOk.n1 (by kernel_rfl) (i_chain.hok i_chain.hE)) (fun t g => i_chain_nat g t.1 t.2.1 t.2.2.1) (fun t => by kernel_rfl)
/-! loop.example_g00220_impl.split -/
def i_split.l1 {R : Type} (kke0 : Int → Option R) : Nat → Int → Int → Option R
  | 0, _, _ => none
  | n + 1, n_, k_ =>
    cond (decide ((IntKind.wrap .i64 ((2 : Int) * k_)) < n_)) (i_split.l1 kke0 n n_ (IntKind.wrap .i64 (k_ * (2 : Int)))) (kke0 k_)
theorem i_split.l1_nat {R S : Type} (g : R → Option S) (kke0 : Int → Option R) : ∀ (n : Nat) (n_ : Int) (k_ : Int), i_split.l1 (fun y0 => (kke0 y0).bind g) n n_ k_ = (i_split.l1 kke0 n n_ k_).bind g := by
  intro n
  induction n with
  | zero => intros; rfl
  | succ n ih => intros; simp only [i_split.l1, grd_bind, cnd_bind, bnd_bind, non_bind, ih]
def i_split.F {R : Type} (kk : Int → Option R) (n_ : Int) : Option R :=
  i_split.l1 (fun k_ => kk k_) fuel n_ (1 : Int)
theorem i_split.F_nat {R S : Type} (g : R → Option S) (kk : Int → Option R) (n_ : Int) : i_split.F (fun y0 => (kk y0).bind g) n_ = (i_split.F kk n_).bind g := by
  simp only [i_split.F, grd_bind, cnd_bind, bnd_bind, non_bind, ← i_split.l1_nat]
def i_split (n_ : Int) : Option Int := i_split.F (fun y0 => some y0) n_
theorem i_split_nat {S : Type} (g : Int → Option S) (n_ : Int) : i_split.F (fun y0 => g y0) n_ = (i_split n_).bind g := i_split.F_nat g (fun y0 => some y0) n_
def i_split.out : Int → CRes := fun a => ⟨encL SV.enc [.one (.int .i64)] (a, ()), [encL SC.enc [] ()]⟩
def i_split.ps : List PS := [.val [none]]
def i_split.sA : List SA := [.v (.one (.int .i64))]
def i_split.fi : FI := FIs i_split.sA (Int) (fun t => i_split t.1) i_split.out i_split.ps
def i_split.E : Env := ⟨tt, lkF [], 11, 0, [], []⟩
def i_split.sh1 : SK := ⟨[.v (.one (.int .i64)), .v (.one (.int .i64))], []⟩
def i_split.sh1e0 : SK := ⟨[.v (.one (.int .i64))], []⟩
def i_split.ko1 : Ex → List CastAt × List Nat
  | .nrm => ([], [])
  | .ret => ([], [])
  | .ext i => cond (Nat.beq i 0) ([], [3]) ([], [])
def i_split.G1 (n : Nat) (R : Type) (t : i_split.sh1.T) (K : Ex → Kp → Option R) : Option R := i_split.l1 (fun y0 => K (.ext 0) (SK.enc i_split.sh1e0 ((y0, ()), ()))) n t.1.1 t.1.2.1
def i_split.S1 : Sum := ⟨([], [0, 3]), sumF i_split.sh1 (i_split.G1 fuel), i_split.ko1⟩
theorem i_split.ok1 (hE : EOk Tryz.prog (i_split.E)) : SumOk Tryz.prog i_split.E (cB (cL (cR (cR (bodyOf Tryz.f225))))) (i_split.S1) := by
  have hh : HintOk Tryz.prog i_split.E (cB (cB (cL (cR (cR (bodyOf Tryz.f225)))))) (.a) := HintOk.n1 (Q := True) (by kernel_rfl) trivial
  have h := loopS (kin := ([], [0, 3])) (kout := i_split.ko1) (sh := i_split.sh1) (F := i_split.G1) (ops_ok (hE.gv _)) (by kernel_rfl) hh (fun _ _ _ => rfl) (fun n R t K => by kernel_rfl) fuel
  exact HintOk.n1 (c := (cB (cL (cR (cR (bodyOf Tryz.f225)))))) (h := .s (i_split.S1)) (P := Tryz.prog) (E := i_split.E) (by kernel_rfl) h
theorem i_split.hok (hE : EOk Tryz.prog (i_split.E)) : HintOk Tryz.prog i_split.E (bodyOf Tryz.f225) (.n (.a) (.n (.a) (.n (.b (.s (i_split.S1))) (.a)))) := HintOk.n1 (Q := (True) ∧ ((True) ∧ ((SumOk Tryz.prog i_split.E (cB (cL (cR (cR (bodyOf Tryz.f225))))) (i_split.S1)) ∧ (True)))) (by kernel_rfl) ⟨trivial, ⟨trivial, ⟨(i_split.ok1 hE), trivial⟩⟩⟩
theorem i_split.hE : EOk Tryz.prog (i_split.E) := EOk.of ttOk (trivial)
theorem i_split.fok : FOk Tryz.prog 225 i_split.fi :=
  fokS (E := i_split.E) (wy := ⟨[[none]], [[]], []⟩) (h := (fun gs => .n (.a) (.n (.a) (.n (.b (.s (i_split.S1))) (.a))))) (G := fun t g => i_split.F (fun y0 => g y0) t.1) (by kernel_rfl) i_split.hE Tryz.func225 (by kernel_rfl) rfl (Nat.le_refl _) (fun t => HintOk.n1 (by kernel_rfl) (i_split.hok i_split.hE)) (fun t g => i_split_nat g t.1) (fun t => by kernel_rfl)
/-! loop.example_g00220_impl.nodeHash -/
def i_nodeHash.F {R : Type} (kk : ByteArray → Option R) (left : ByteArray) (right : ByteArray) : Option R :=
  grd (gCat (⟨#[1]⟩ : ByteArray) left) <|
  grd (gCat ((⟨#[1]⟩ : ByteArray) ++ left) right) <|
  (i_hash (((⟨#[1]⟩ : ByteArray) ++ left) ++ right)).bind fun r =>
  kk r
theorem i_nodeHash.F_nat {R S : Type} (g : R → Option S) (kk : ByteArray → Option R) (left : ByteArray) (right : ByteArray) : i_nodeHash.F (fun y0 => (kk y0).bind g) left right = (i_nodeHash.F kk left right).bind g := by
  simp only [i_nodeHash.F, grd_bind, cnd_bind, bnd_bind, non_bind]
def i_nodeHash (left : ByteArray) (right : ByteArray) : Option ByteArray := i_nodeHash.F (fun y0 => some y0) left right
theorem i_nodeHash_nat {S : Type} (g : ByteArray → Option S) (left : ByteArray) (right : ByteArray) : i_nodeHash.F (fun y0 => g y0) left right = (i_nodeHash left right).bind g := i_nodeHash.F_nat g (fun y0 => some y0) left right
def i_nodeHash.out : ByteArray → CRes := fun a => ⟨encL SV.enc [.one (.str)] (a, ()), [encL SC.enc [] (), encL SC.enc [] ()]⟩
def i_nodeHash.ps : List PS := [.val [none], .val [none]]
def i_nodeHash.sA : List SA := [.v (.one (.str)), .v (.one (.str))]
def i_nodeHash.fi : FI := FIs i_nodeHash.sA (ByteArray) (fun t => i_nodeHash t.1 t.2.1) i_nodeHash.out i_nodeHash.ps
def i_nodeHash.E : Env := ⟨tt, lkF [(202, i_hash.fi)], 10, 0, [], []⟩
theorem i_nodeHash.hok (hE : EOk Tryz.prog (i_nodeHash.E)) : HintOk Tryz.prog i_nodeHash.E (bodyOf Tryz.f232) (.a) := HintOk.n1 (Q := True) (by kernel_rfl) trivial
theorem i_nodeHash.hE : EOk Tryz.prog (i_nodeHash.E) := EOk.of ttOk (⟨i_hash.fok, trivial⟩)
theorem i_nodeHash.fok : FOk Tryz.prog 232 i_nodeHash.fi :=
  fokS (E := i_nodeHash.E) (wy := ⟨[[none]], [[], []], []⟩) (h := (fun gs => .a)) (G := fun t g => i_nodeHash.F (fun y0 => g y0) t.1 t.2.1) (by kernel_rfl) i_nodeHash.hE Tryz.func232 (by kernel_rfl) rfl (Nat.le_refl _) (fun t => HintOk.n1 (by kernel_rfl) (i_nodeHash.hok i_nodeHash.hE)) (fun t g => i_nodeHash_nat g t.1 t.2.1) (fun t => by kernel_rfl)
/-! __loop.example_g00220_impl.prover_.node -/
def i_prover_node.F {R : Type} (kk : ByteArray → List ByteArray → Bool → List ByteArray → Option R) (p_proof : List ByteArray) (p_bad : Bool) (p_steps : List ByteArray) (left : ByteArray) (right : ByteArray) : Option R :=
  grd (gCat (⟨#[1]⟩ : ByteArray) left) <|
  grd (gCat ((⟨#[1]⟩ : ByteArray) ++ left) right) <|
  grd (gRm (((List.length p_steps) + (List.length ([((⟨#[1]⟩ : ByteArray) ++ left) ++ right]))) * 16)) <|
  (i_nodeHash left right).bind fun r =>
  kk r p_proof p_bad (p_steps ++ ([((⟨#[1]⟩ : ByteArray) ++ left) ++ right]))
theorem i_prover_node.F_nat {R S : Type} (g : R → Option S) (kk : ByteArray → List ByteArray → Bool → List ByteArray → Option R) (p_proof : List ByteArray) (p_bad : Bool) (p_steps : List ByteArray) (left : ByteArray) (right : ByteArray) : i_prover_node.F (fun y0 y1 y2 y3 => (kk y0 y1 y2 y3).bind g) p_proof p_bad p_steps left right = (i_prover_node.F kk p_proof p_bad p_steps left right).bind g := by
  simp only [i_prover_node.F, grd_bind, cnd_bind, bnd_bind, non_bind]
def i_prover_node (p_proof : List ByteArray) (p_bad : Bool) (p_steps : List ByteArray) (left : ByteArray) (right : ByteArray) : Option (ByteArray × List ByteArray × Bool × List ByteArray) := i_prover_node.F (fun y0 y1 y2 y3 => some (y0, y1, y2, y3)) p_proof p_bad p_steps left right
theorem i_prover_node_nat {S : Type} (g : (ByteArray × List ByteArray × Bool × List ByteArray) → Option S) (p_proof : List ByteArray) (p_bad : Bool) (p_steps : List ByteArray) (left : ByteArray) (right : ByteArray) : i_prover_node.F (fun y0 y1 y2 y3 => g (y0, y1, y2, y3)) p_proof p_bad p_steps left right = (i_prover_node p_proof p_bad p_steps left right).bind g := i_prover_node.F_nat g (fun y0 y1 y2 y3 => some (y0, y1, y2, y3)) p_proof p_bad p_steps left right
def i_prover_node.out : (ByteArray × List ByteArray × Bool × List ByteArray) → CRes := fun a => ⟨encL SV.enc [.one (.str)] (a.1, ()), [encL SC.enc [.slv [1] .str, .bool, .own [] .str true] (a.2.1, a.2.2.1, a.2.2.2, ()), encL SC.enc [] (), encL SC.enc [] ()]⟩
def i_prover_node.ps : List PS := [.ptr [some (.str, false), none, some (.str, true)], .val [none], .val [none]]
def i_prover_node.sA : List SA := [.ptr [.slv [] .str, .bool, .own [] .str true], .v (.one (.str)), .v (.one (.str))]
def i_prover_node.fi : FI := FIs i_prover_node.sA (ByteArray × List ByteArray × Bool × List ByteArray) (fun t => i_prover_node t.1.1 t.1.2.1 t.1.2.2.1 t.2.1 t.2.2.1) i_prover_node.out i_prover_node.ps
def i_prover_node.E : Env := ⟨tt, lkF [(232, i_nodeHash.fi)], 23, 2, [], []⟩
theorem i_prover_node.hok (hE : EOk Tryz.prog (i_prover_node.E)) : HintOk Tryz.prog i_prover_node.E (bodyOf Tryz.f226) (.a) := HintOk.n1 (Q := True) (by kernel_rfl) trivial
theorem i_prover_node.hE : EOk Tryz.prog (i_prover_node.E) := EOk.of ttOk (⟨i_nodeHash.fok, trivial⟩)
theorem i_prover_node.fok : FOk Tryz.prog 226 i_prover_node.fi :=
  fokS (E := i_prover_node.E) (wy := ⟨[[none]], [[some (.str, false), none, some (.str, true)], [], []], []⟩) (h := (fun gs => .a)) (G := fun t g => i_prover_node.F (fun y0 y1 y2 y3 => g (y0, y1, y2, y3)) t.1.1 t.1.2.1 t.1.2.2.1 t.2.1 t.2.2.1) (by kernel_rfl) i_prover_node.hE Tryz.func226 (by kernel_rfl) rfl (Nat.le_refl _) (fun t => HintOk.n1 (by kernel_rfl) (i_prover_node.hok i_prover_node.hE)) (fun t g => i_prover_node_nat g t.1.1 t.1.2.1 t.1.2.2.1 t.2.1 t.2.2.1) (fun t => by kernel_rfl)
/-! __loop.example_g00220_impl.prover_.next -/
def i_prover_next.F {R : Type} (kk : ByteArray → List ByteArray → Bool → List ByteArray → Option R) (p_proof : List ByteArray) (p_bad : Bool) (p_steps : List ByteArray) : Option R :=
  cond ((List.length p_proof : Int) == (0 : Int)) (kk ByteArray.empty p_proof true p_steps) (
    grd (gIx (0 : Int) (List.length p_proof)) <|
    grd (gSl (1 : Int) (List.length p_proof : Int) (List.length p_proof)) <|
    kk (rdE (.str : Kd) p_proof (Int.toNat (0 : Int))) (sub p_proof (1 : Int) (List.length p_proof : Int)) p_bad p_steps)
theorem i_prover_next.F_nat {R S : Type} (g : R → Option S) (kk : ByteArray → List ByteArray → Bool → List ByteArray → Option R) (p_proof : List ByteArray) (p_bad : Bool) (p_steps : List ByteArray) : i_prover_next.F (fun y0 y1 y2 y3 => (kk y0 y1 y2 y3).bind g) p_proof p_bad p_steps = (i_prover_next.F kk p_proof p_bad p_steps).bind g := by
  simp only [i_prover_next.F, grd_bind, cnd_bind, bnd_bind, non_bind]
def i_prover_next (p_proof : List ByteArray) (p_bad : Bool) (p_steps : List ByteArray) : Option (ByteArray × List ByteArray × Bool × List ByteArray) := i_prover_next.F (fun y0 y1 y2 y3 => some (y0, y1, y2, y3)) p_proof p_bad p_steps
theorem i_prover_next_nat {S : Type} (g : (ByteArray × List ByteArray × Bool × List ByteArray) → Option S) (p_proof : List ByteArray) (p_bad : Bool) (p_steps : List ByteArray) : i_prover_next.F (fun y0 y1 y2 y3 => g (y0, y1, y2, y3)) p_proof p_bad p_steps = (i_prover_next p_proof p_bad p_steps).bind g := i_prover_next.F_nat g (fun y0 y1 y2 y3 => some (y0, y1, y2, y3)) p_proof p_bad p_steps
def i_prover_next.out : (ByteArray × List ByteArray × Bool × List ByteArray) → CRes := fun a => ⟨encL SV.enc [.one (.str)] (a.1, ()), [encL SC.enc [.slv [1] .str, .bool, .own [] .str true] (a.2.1, a.2.2.1, a.2.2.2, ())]⟩
def i_prover_next.ps : List PS := [.ptr [some (.str, false), none, some (.str, true)]]
def i_prover_next.sA : List SA := [.ptr [.slv [] .str, .bool, .own [] .str true]]
def i_prover_next.fi : FI := FIs i_prover_next.sA (ByteArray × List ByteArray × Bool × List ByteArray) (fun t => i_prover_next t.1.1 t.1.2.1 t.1.2.2.1) i_prover_next.out i_prover_next.ps
def i_prover_next.E : Env := ⟨tt, lkF [], 28, 2, [], []⟩
theorem i_prover_next.hok (hE : EOk Tryz.prog (i_prover_next.E)) : HintOk Tryz.prog i_prover_next.E (bodyOf Tryz.f227) (.a) := HintOk.n1 (Q := True) (by kernel_rfl) trivial
theorem i_prover_next.hE : EOk Tryz.prog (i_prover_next.E) := EOk.of ttOk (trivial)
theorem i_prover_next.fok : FOk Tryz.prog 227 i_prover_next.fi :=
  fokS (E := i_prover_next.E) (wy := ⟨[[none]], [[some (.str, false), none, some (.str, true)]], []⟩) (h := (fun gs => .a)) (G := fun t g => i_prover_next.F (fun y0 y1 y2 y3 => g (y0, y1, y2, y3)) t.1.1 t.1.2.1 t.1.2.2.1) (by kernel_rfl) i_prover_next.hE Tryz.func227 (by kernel_rfl) rfl (Nat.le_refl _) (fun t => HintOk.n1 (by kernel_rfl) (i_prover_next.hok i_prover_next.hE)) (fun t g => i_prover_next_nat g t.1.1 t.1.2.1 t.1.2.2.1) (fun t => by kernel_rfl)
/-! __loop.example_g00220_impl.prover_.inclusion -/
def i_prover_inclusion.F {R : Type} (rc : List ByteArray → Bool → List ByteArray → ByteArray → Int → Int → Option (ByteArray × List ByteArray × Bool × List ByteArray)) (kk : ByteArray → List ByteArray → Bool → List ByteArray → Option R) (p_proof : List ByteArray) (p_bad : Bool) (p_steps : List ByteArray) (leaf : ByteArray) (at_ : Int) (size : Int) : Option R :=
  cond (decide (size ≤ (1 : Int))) (kk leaf p_proof p_bad p_steps) (
    (i_split size).bind fun r =>
    cond (decide (at_ < r)) (
      (rc p_proof p_bad p_steps leaf at_ r).bind fun r1 =>
      (i_prover_next r1.2.1 r1.2.2.1 r1.2.2.2).bind fun r2 =>
      (i_prover_node r2.2.1 r2.2.2.1 r2.2.2.2 r1.1 r2.1).bind fun r3 =>
      kk r3.1 r3.2.1 r3.2.2.1 r3.2.2.2) (
      (rc p_proof p_bad p_steps leaf (IntKind.wrap .i64 (at_ - r)) (IntKind.wrap .i64 (size - r))).bind fun r4 =>
      (i_prover_next r4.2.1 r4.2.2.1 r4.2.2.2).bind fun r5 =>
      (i_prover_node r5.2.1 r5.2.2.1 r5.2.2.2 r5.1 r4.1).bind fun r6 =>
      kk r6.1 r6.2.1 r6.2.2.1 r6.2.2.2))
theorem i_prover_inclusion.F_nat {R S : Type} (g : R → Option S) (rc : List ByteArray → Bool → List ByteArray → ByteArray → Int → Int → Option (ByteArray × List ByteArray × Bool × List ByteArray)) (kk : ByteArray → List ByteArray → Bool → List ByteArray → Option R) (p_proof : List ByteArray) (p_bad : Bool) (p_steps : List ByteArray) (leaf : ByteArray) (at_ : Int) (size : Int) : i_prover_inclusion.F rc (fun y0 y1 y2 y3 => (kk y0 y1 y2 y3).bind g) p_proof p_bad p_steps leaf at_ size = (i_prover_inclusion.F rc kk p_proof p_bad p_steps leaf at_ size).bind g := by
  simp only [i_prover_inclusion.F, grd_bind, cnd_bind, bnd_bind, non_bind]
def i_prover_inclusion : Nat → List ByteArray → Bool → List ByteArray → ByteArray → Int → Int → Option (ByteArray × List ByteArray × Bool × List ByteArray)
  | 0, _, _, _, _, _, _ => none
  | fu + 1, p_proof, p_bad, p_steps, leaf, at_, size => i_prover_inclusion.F (i_prover_inclusion fu) (fun y0 y1 y2 y3 => some (y0, y1, y2, y3)) p_proof p_bad p_steps leaf at_ size
theorem i_prover_inclusion_nat {S : Type} (fu : Nat) (g : (ByteArray × List ByteArray × Bool × List ByteArray) → Option S) (p_proof : List ByteArray) (p_bad : Bool) (p_steps : List ByteArray) (leaf : ByteArray) (at_ : Int) (size : Int) : i_prover_inclusion.F (i_prover_inclusion fu) (fun y0 y1 y2 y3 => g (y0, y1, y2, y3)) p_proof p_bad p_steps leaf at_ size = (i_prover_inclusion (fu + 1) p_proof p_bad p_steps leaf at_ size).bind g := i_prover_inclusion.F_nat g (i_prover_inclusion fu) (fun y0 y1 y2 y3 => some (y0, y1, y2, y3)) p_proof p_bad p_steps leaf at_ size
def i_prover_inclusion.out : (ByteArray × List ByteArray × Bool × List ByteArray) → CRes := fun a => ⟨encL SV.enc [.one (.str)] (a.1, ()), [encL SC.enc [.slv [1] .str, .bool, .own [] .str true] (a.2.1, a.2.2.1, a.2.2.2, ()), encL SC.enc [] (), encL SC.enc [] (), encL SC.enc [] ()]⟩
def i_prover_inclusion.ps : List PS := [.ptr [some (.str, false), none, some (.str, true)], .val [none], .val [none], .val [none]]
def i_prover_inclusion.sA : List SA := [.ptr [.slv [] .str, .bool, .own [] .str true], .v (.one (.str)), .v (.one (.int .i64)), .v (.one (.int .i64))]
def i_prover_inclusion.fi (fu : Nat) : FI := FIs i_prover_inclusion.sA (ByteArray × List ByteArray × Bool × List ByteArray) (fun t => i_prover_inclusion fu t.1.1 t.1.2.1 t.1.2.2.1 t.2.1 t.2.2.1 t.2.2.2.1) i_prover_inclusion.out i_prover_inclusion.ps
def i_prover_inclusion.E (fu : Nat) : Env := ⟨tt, lkF [(203, i_prover_inclusion.fi fu), (225, i_split.fi), (226, i_prover_node.fi), (227, i_prover_next.fi)], 44, 2, [], []⟩
theorem i_prover_inclusion.hok (fu : Nat) (hE : EOk Tryz.prog (i_prover_inclusion.E fu)) : HintOk Tryz.prog (i_prover_inclusion.E fu) (bodyOf Tryz.f203) (.a) := HintOk.n1 (Q := True) (by kernel_rfl) trivial
theorem i_prover_inclusion.fok0 : FOk Tryz.prog 203 (i_prover_inclusion.fi 0) := FOk.zero ⟨_, _, Tryz.func203, by kernel_rfl, rfl⟩ (fun _ => rfl)
theorem i_prover_inclusion.fok1 (fu : Nat) (ih : FOk Tryz.prog 203 (i_prover_inclusion.fi fu)) : FOk Tryz.prog 203 (i_prover_inclusion.fi (fu + 1)) := by
  have hE : EOk Tryz.prog (i_prover_inclusion.E fu) := EOk.of ttOk (⟨ih, ⟨i_split.fok, ⟨i_prover_node.fok, ⟨i_prover_next.fok, trivial⟩⟩⟩⟩)
  exact fokS (E := i_prover_inclusion.E fu) (wy := ⟨[[none]], [[some (.str, false), none, some (.str, true)], [], [], []], []⟩) (h := (fun gs => .a)) (G := fun t g => i_prover_inclusion.F (i_prover_inclusion fu) (fun y0 y1 y2 y3 => g (y0, y1, y2, y3)) t.1.1 t.1.2.1 t.1.2.2.1 t.2.1 t.2.2.1 t.2.2.2.1) (by kernel_rfl) hE Tryz.func203 (by kernel_rfl) rfl (Nat.le_refl _) (fun t => HintOk.n1 (by kernel_rfl) (i_prover_inclusion.hok fu hE)) (fun t g => i_prover_inclusion_nat fu g t.1.1 t.1.2.1 t.1.2.2.1 t.2.1 t.2.2.1 t.2.2.2.1) (fun t => by kernel_rfl)
theorem i_prover_inclusion.fok (fu : Nat) : FOk Tryz.prog 203 (i_prover_inclusion.fi fu) := Nat.rec i_prover_inclusion.fok0 i_prover_inclusion.fok1 fu
/-! loop.example_g00220_impl.inclusionRoot -/
def i_inclusionRoot.F {R : Type} (kk : ByteArray → List ByteArray → Int → Option R) (leaf : ByteArray) (at_ : Int) (size : Int) (proof : List ByteArray) : Option R :=
  (i_within size (1 : Int) (64 : Int)).bind fun r =>
  cond (!r) (kk ByteArray.empty [] (4 : Int)) (
    (i_within at_ (0 : Int) (IntKind.wrap .i64 (size - (1 : Int)))).bind fun r1 =>
    cond (!r1) (kk ByteArray.empty [] (4 : Int)) (
      (i_prover_inclusion fuel proof false [] leaf at_ size).bind fun r2 =>
      cond (r2.2.2.1) (kk ByteArray.empty [] (10 : Int)) (
        cond (decide ((List.length r2.2.1 : Int) > (0 : Int))) (kk ByteArray.empty [] (10 : Int)) (kk r2.1 r2.2.2.2 (0 : Int)))))
theorem i_inclusionRoot.F_nat {R S : Type} (g : R → Option S) (kk : ByteArray → List ByteArray → Int → Option R) (leaf : ByteArray) (at_ : Int) (size : Int) (proof : List ByteArray) : i_inclusionRoot.F (fun y0 y1 y2 => (kk y0 y1 y2).bind g) leaf at_ size proof = (i_inclusionRoot.F kk leaf at_ size proof).bind g := by
  simp only [i_inclusionRoot.F, grd_bind, cnd_bind, bnd_bind, non_bind]
def i_inclusionRoot (leaf : ByteArray) (at_ : Int) (size : Int) (proof : List ByteArray) : Option (ByteArray × List ByteArray × Int) := i_inclusionRoot.F (fun y0 y1 y2 => some (y0, y1, y2)) leaf at_ size proof
theorem i_inclusionRoot_nat {S : Type} (g : (ByteArray × List ByteArray × Int) → Option S) (leaf : ByteArray) (at_ : Int) (size : Int) (proof : List ByteArray) : i_inclusionRoot.F (fun y0 y1 y2 => g (y0, y1, y2)) leaf at_ size proof = (i_inclusionRoot leaf at_ size proof).bind g := i_inclusionRoot.F_nat g (fun y0 y1 y2 => some (y0, y1, y2)) leaf at_ size proof
def i_inclusionRoot.out : (ByteArray × List ByteArray × Int) → CRes := fun a => ⟨encL SV.enc [.one (.str), .one (.own [] .str true), .one (.int .i64)] (a.1, a.2.1, a.2.2, ()), [encL SC.enc [] (), encL SC.enc [] (), encL SC.enc [] (), encL SC.enc [] ()]⟩
def i_inclusionRoot.ps : List PS := [.val [none], .val [none], .val [none], .val [some (.str, false)]]
def i_inclusionRoot.sA : List SA := [.v (.one (.str)), .v (.one (.int .i64)), .v (.one (.int .i64)), .v (.one (.slv [] .str))]
def i_inclusionRoot.fi : FI := FIs i_inclusionRoot.sA (ByteArray × List ByteArray × Int) (fun t => i_inclusionRoot t.1 t.2.1 t.2.2.1 t.2.2.2.1) i_inclusionRoot.out i_inclusionRoot.ps
def i_inclusionRoot.E : Env := ⟨tt, lkF [(61, i_within.fi), (203, i_prover_inclusion.fi fuel)], 48, 0, [], []⟩
theorem i_inclusionRoot.hok (hE : EOk Tryz.prog (i_inclusionRoot.E)) : HintOk Tryz.prog i_inclusionRoot.E (bodyOf Tryz.f166) (.a) := HintOk.n1 (Q := True) (by kernel_rfl) trivial
theorem i_inclusionRoot.hE : EOk Tryz.prog (i_inclusionRoot.E) := EOk.of ttOk (⟨i_within.fok, ⟨i_prover_inclusion.fok fuel, trivial⟩⟩)
theorem i_inclusionRoot.fok : FOk Tryz.prog 166 i_inclusionRoot.fi :=
  fokS (E := i_inclusionRoot.E) (wy := ⟨[[none], [some (.str, true)], [none]], [[], [], [], []], []⟩) (h := (fun gs => .a)) (G := fun t g => i_inclusionRoot.F (fun y0 y1 y2 => g (y0, y1, y2)) t.1 t.2.1 t.2.2.1 t.2.2.2.1) (by kernel_rfl) i_inclusionRoot.hE Tryz.func166 (by kernel_rfl) rfl (Nat.le_refl _) (fun t => HintOk.n1 (by kernel_rfl) (i_inclusionRoot.hok i_inclusionRoot.hE)) (fun t g => i_inclusionRoot_nat g t.1 t.2.1 t.2.2.1 t.2.2.2.1) (fun t => by kernel_rfl)
/-! loop.example_g00220_impl.endsLeaf -/
def i_endsLeaf.l1 {R : Type} (kke0 : ByteArray → Option R) : Nat → ByteArray → List ByteArray → Int → Int → Option R
  | 0, _, _, _, _ => none
  | n + 1, all, l, i, i1 =>
    cond (decide (i1 < i)) (
      grd (gIx i1 (List.length l)) <|
      grd (gCat all (rdE (.str : Kd) l (Int.toNat i1))) <|
      i_endsLeaf.l1 kke0 n (all ++ (rdE (.str : Kd) l (Int.toNat i1))) l i (IntKind.wrap .i64 (i1 + (1 : Int)))) (kke0 all)
theorem i_endsLeaf.l1_nat {R S : Type} (g : R → Option S) (kke0 : ByteArray → Option R) : ∀ (n : Nat) (all : ByteArray) (l : List ByteArray) (i : Int) (i1 : Int), i_endsLeaf.l1 (fun y0 => (kke0 y0).bind g) n all l i i1 = (i_endsLeaf.l1 kke0 n all l i i1).bind g := by
  intro n
  induction n with
  | zero => intros; rfl
  | succ n ih => intros; simp only [i_endsLeaf.l1, grd_bind, cnd_bind, bnd_bind, non_bind, ih]
def i_endsLeaf.F {R : Type} (kk : ByteArray → Option R) (ends : List ByteArray) : Option R :=
  i_endsLeaf.l1 (fun all =>
    (i_hash all).bind fun r =>
    kk r) fuel (⟨#[5]⟩ : ByteArray) ends (List.length ends : Int) (0 : Int)
theorem i_endsLeaf.F_nat {R S : Type} (g : R → Option S) (kk : ByteArray → Option R) (ends : List ByteArray) : i_endsLeaf.F (fun y0 => (kk y0).bind g) ends = (i_endsLeaf.F kk ends).bind g := by
  simp only [i_endsLeaf.F, grd_bind, cnd_bind, bnd_bind, non_bind, ← i_endsLeaf.l1_nat]
def i_endsLeaf (ends : List ByteArray) : Option ByteArray := i_endsLeaf.F (fun y0 => some y0) ends
theorem i_endsLeaf_nat {S : Type} (g : ByteArray → Option S) (ends : List ByteArray) : i_endsLeaf.F (fun y0 => g y0) ends = (i_endsLeaf ends).bind g := i_endsLeaf.F_nat g (fun y0 => some y0) ends
def i_endsLeaf.out : ByteArray → CRes := fun a => ⟨encL SV.enc [.one (.str)] (a, ()), [encL SC.enc [] ()]⟩
def i_endsLeaf.ps : List PS := [.val [some (.str, false)]]
def i_endsLeaf.sA : List SA := [.v (.one (.slv [] .str))]
def i_endsLeaf.fi : FI := FIs i_endsLeaf.sA (ByteArray) (fun t => i_endsLeaf t.1) i_endsLeaf.out i_endsLeaf.ps
def i_endsLeaf.E : Env := ⟨tt, lkF [(202, i_hash.fi)], 18, 0, [], []⟩
def i_endsLeaf.sh1 : SK := ⟨[.v (.one (.str)), .v (.one (.slv [1] .str)), .v (.one (.int .i64)), .v (.one (.int .i64))], []⟩
def i_endsLeaf.sh1e0 : SK := ⟨[.v (.one (.str))], []⟩
def i_endsLeaf.ko1 : Ex → List CastAt × List Nat
  | .nrm => ([], [])
  | .ret => ([], [])
  | .ext i => cond (Nat.beq i 0) ([], [3]) ([], [])
def i_endsLeaf.G1 (n : Nat) (R : Type) (t : i_endsLeaf.sh1.T) (K : Ex → Kp → Option R) : Option R := i_endsLeaf.l1 (fun y0 => K (.ext 0) (SK.enc i_endsLeaf.sh1e0 ((y0, ()), ()))) n t.1.1 t.1.2.1 t.1.2.2.1 t.1.2.2.2.1
def i_endsLeaf.S1 : Sum := ⟨([], [3, 6, 7, 8]), sumF i_endsLeaf.sh1 (i_endsLeaf.G1 fuel), i_endsLeaf.ko1⟩
theorem i_endsLeaf.ok1 (hE : EOk Tryz.prog (i_endsLeaf.E)) : SumOk Tryz.prog i_endsLeaf.E (cB (cR (cL (cR (cR (bodyOf Tryz.f167)))))) (i_endsLeaf.S1) := by
  have hh : HintOk Tryz.prog i_endsLeaf.E (cB (cB (cR (cL (cR (cR (bodyOf Tryz.f167))))))) (.a) := HintOk.n1 (Q := True) (by kernel_rfl) trivial
  have h := loopS (kin := ([], [3, 6, 7, 8])) (kout := i_endsLeaf.ko1) (sh := i_endsLeaf.sh1) (F := i_endsLeaf.G1) (ops_ok (hE.gv _)) (by kernel_rfl) hh (fun _ _ _ => rfl) (fun n R t K => by kernel_rfl) fuel
  exact HintOk.n1 (c := (cB (cR (cL (cR (cR (bodyOf Tryz.f167))))))) (h := .s (i_endsLeaf.S1)) (P := Tryz.prog) (E := i_endsLeaf.E) (by kernel_rfl) h
theorem i_endsLeaf.hok (hE : EOk Tryz.prog (i_endsLeaf.E)) : HintOk Tryz.prog i_endsLeaf.E (bodyOf Tryz.f167) (.n (.a) (.n (.a) (.n (.n (.a) (.b (.s (i_endsLeaf.S1)))) (.a)))) := HintOk.n1 (Q := (True) ∧ ((True) ∧ (((True) ∧ (SumOk Tryz.prog i_endsLeaf.E (cB (cR (cL (cR (cR (bodyOf Tryz.f167)))))) (i_endsLeaf.S1))) ∧ (True)))) (by kernel_rfl) ⟨trivial, ⟨trivial, ⟨⟨trivial, (i_endsLeaf.ok1 hE)⟩, trivial⟩⟩⟩
theorem i_endsLeaf.hE : EOk Tryz.prog (i_endsLeaf.E) := EOk.of ttOk (⟨i_hash.fok, trivial⟩)
theorem i_endsLeaf.fok : FOk Tryz.prog 167 i_endsLeaf.fi :=
  fokS (E := i_endsLeaf.E) (wy := ⟨[[none]], [[]], []⟩) (h := (fun gs => .n (.a) (.n (.a) (.n (.n (.a) (.b (.s (i_endsLeaf.S1)))) (.a))))) (G := fun t g => i_endsLeaf.F (fun y0 => g y0) t.1) (by kernel_rfl) i_endsLeaf.hE Tryz.func167 (by kernel_rfl) rfl (Nat.le_refl _) (fun t => HintOk.n1 (by kernel_rfl) (i_endsLeaf.hok i_endsLeaf.hE)) (fun t g => i_endsLeaf_nat g t.1) (fun t => by kernel_rfl)
/-! _loop.example_g00220_impl.Signature_.leadsTo -/
def i_Signature_leadsTo.l1 {R : Type} (kke0 : ByteArray → Int → List ByteArray → List ByteArray → List ByteArray → Option R) : Nat → ByteArray → Int → Int → Int → List ByteArray → List ByteArray → List ByteArray → List Int → Option R
  | 0, _, _, _, _, _, _, _, _ => none
  | n + 1, root, i, i1, x, x1, x2, ends, l =>
    cond (decide (i1 < i)) (
      grd (gIx i1 (List.length l)) <|
      grd (gIx i1 (List.length x1)) <|
      (i_chain (rdE (.str : Kd) x1 (Int.toNat i1)) (rdE (.int .i64 : Kd) l (Int.toNat i1)) (IntKind.wrap .i64 ((15 : Int) - (rdE (.int .i64 : Kd) l (Int.toNat i1))))).bind fun r =>
      grd (gRm (((List.length ends) + (List.length [r])) * 16)) <|
      i_Signature_leadsTo.l1 kke0 n root i (IntKind.wrap .i64 (i1 + (1 : Int))) x x1 x2 (ends ++ [r]) l) (kke0 root x x1 x2 ends)
theorem i_Signature_leadsTo.l1_nat {R S : Type} (g : R → Option S) (kke0 : ByteArray → Int → List ByteArray → List ByteArray → List ByteArray → Option R) : ∀ (n : Nat) (root : ByteArray) (i : Int) (i1 : Int) (x : Int) (x1 : List ByteArray) (x2 : List ByteArray) (ends : List ByteArray) (l : List Int), i_Signature_leadsTo.l1 (fun y0 y1 y2 y3 y4 => (kke0 y0 y1 y2 y3 y4).bind g) n root i i1 x x1 x2 ends l = (i_Signature_leadsTo.l1 kke0 n root i i1 x x1 x2 ends l).bind g := by
  intro n
  induction n with
  | zero => intros; rfl
  | succ n ih => intros; simp only [i_Signature_leadsTo.l1, grd_bind, cnd_bind, bnd_bind, non_bind, ih]
def i_Signature_leadsTo.F {R : Type} (kk : Bool → Bool → Option R) (x_Index : Int) (x_Parts : List ByteArray) (x_Path : List ByteArray) (root : ByteArray) (msg : ByteArray) : Option R :=
  (i_digits msg).bind fun r =>
  i_Signature_leadsTo.l1 (fun root1 x x1 x2 ends =>
    (i_endsLeaf ends).bind fun r1 =>
    (i_inclusionRoot r1 x (4 : Int) x2).bind fun r2 =>
    kk (sEq r2.1 root1) (r2.2.2 == (0 : Int))) fuel root (List.length r : Int) (0 : Int) x_Index x_Parts x_Path ([] : List ByteArray) r
theorem i_Signature_leadsTo.F_nat {R S : Type} (g : R → Option S) (kk : Bool → Bool → Option R) (x_Index : Int) (x_Parts : List ByteArray) (x_Path : List ByteArray) (root : ByteArray) (msg : ByteArray) : i_Signature_leadsTo.F (fun y0 y1 => (kk y0 y1).bind g) x_Index x_Parts x_Path root msg = (i_Signature_leadsTo.F kk x_Index x_Parts x_Path root msg).bind g := by
  simp only [i_Signature_leadsTo.F, grd_bind, cnd_bind, bnd_bind, non_bind, ← i_Signature_leadsTo.l1_nat]
def i_Signature_leadsTo (x_Index : Int) (x_Parts : List ByteArray) (x_Path : List ByteArray) (root : ByteArray) (msg : ByteArray) : Option (Bool × Bool) := i_Signature_leadsTo.F (fun y0 y1 => some (y0, y1)) x_Index x_Parts x_Path root msg
theorem i_Signature_leadsTo_nat {S : Type} (g : (Bool × Bool) → Option S) (x_Index : Int) (x_Parts : List ByteArray) (x_Path : List ByteArray) (root : ByteArray) (msg : ByteArray) : i_Signature_leadsTo.F (fun y0 y1 => g (y0, y1)) x_Index x_Parts x_Path root msg = (i_Signature_leadsTo x_Index x_Parts x_Path root msg).bind g := i_Signature_leadsTo.F_nat g (fun y0 y1 => some (y0, y1)) x_Index x_Parts x_Path root msg
def i_Signature_leadsTo.out : (Bool × Bool) → CRes := fun a => ⟨encL SV.enc [.one (.bool), .one (.bool)] (a.1, a.2, ()), [encL SC.enc [] (), encL SC.enc [] (), encL SC.enc [] ()]⟩
def i_Signature_leadsTo.ps : List PS := [.val [none, some (.str, false), some (.str, false)], .val [none], .val [none]]
def i_Signature_leadsTo.sA : List SA := [.v (.agg [.int .i64, .slv [] .str, .slv [] .str]), .v (.one (.str)), .v (.one (.str))]
def i_Signature_leadsTo.fi : FI := FIs i_Signature_leadsTo.sA (Bool × Bool) (fun t => i_Signature_leadsTo t.1.1 t.1.2.1 t.1.2.2.1 t.2.1 t.2.2.1) i_Signature_leadsTo.out i_Signature_leadsTo.ps
def i_Signature_leadsTo.E : Env := ⟨tt, lkF [(164, i_digits.fi), (165, i_chain.fi), (166, i_inclusionRoot.fi), (167, i_endsLeaf.fi)], 52, 0, [], []⟩
def i_Signature_leadsTo.sh1 : SK := ⟨[.v (.one (.str)), .v (.one (.bptr 0 0)), .v (.one (.slo 1)), .v (.one (.slo 2)), .v (.one (.int .i64)), .v (.one (.int .i64))], [.box [.int .i64, .slv [1] .str, .slv [1] .str], .arr .str [] true, .arr (.int .i64) [] true]⟩
def i_Signature_leadsTo.sh1e0 : SK := ⟨[.v (.one (.str)), .v (.one (.bptr 0 0)), .v (.one (.slo 1))], [.box [.int .i64, .slv [1] .str, .slv [1] .str], .arr .str [] true]⟩
def i_Signature_leadsTo.ko1 : Ex → List CastAt × List Nat
  | .nrm => ([], [])
  | .ret => ([], [])
  | .ext i => cond (Nat.beq i 0) ([], [1, 3, 8]) ([], [])
def i_Signature_leadsTo.G1 (n : Nat) (R : Type) (t : i_Signature_leadsTo.sh1.T) (K : Ex → Kp → Option R) : Option R := i_Signature_leadsTo.l1 (fun y0 y1 y2 y3 y4 => K (.ext 0) (SK.enc i_Signature_leadsTo.sh1e0 ((y0, (), (), ()), ((y1, y2, y3, ()), y4, ())))) n t.1.1 t.1.2.2.2.2.1 t.1.2.2.2.2.2.1 t.2.1.1 t.2.1.2.1 t.2.1.2.2.1 t.2.2.1 t.2.2.2.1
def i_Signature_leadsTo.S1 : Sum := ⟨([], [1, 3, 8, 16, 17, 18]), sumF i_Signature_leadsTo.sh1 (i_Signature_leadsTo.G1 fuel), i_Signature_leadsTo.ko1⟩
theorem i_Signature_leadsTo.ok1 (hE : EOk Tryz.prog (i_Signature_leadsTo.E)) : SumOk Tryz.prog i_Signature_leadsTo.E (cB (cR (cL (cR (cR (bodyOf Tryz.f122)))))) (i_Signature_leadsTo.S1) := by
  have hh : HintOk Tryz.prog i_Signature_leadsTo.E (cB (cB (cR (cL (cR (cR (bodyOf Tryz.f122))))))) (.a) := HintOk.n1 (Q := True) (by kernel_rfl) trivial
  have h := loopS (kin := ([], [1, 3, 8, 16, 17, 18])) (kout := i_Signature_leadsTo.ko1) (sh := i_Signature_leadsTo.sh1) (F := i_Signature_leadsTo.G1) (ops_ok (hE.gv _)) (by kernel_rfl) hh (fun _ _ _ => rfl) (fun n R t K => by kernel_rfl) fuel
  exact HintOk.n1 (c := (cB (cR (cL (cR (cR (bodyOf Tryz.f122))))))) (h := .s (i_Signature_leadsTo.S1)) (P := Tryz.prog) (E := i_Signature_leadsTo.E) (by kernel_rfl) h
theorem i_Signature_leadsTo.hok (hE : EOk Tryz.prog (i_Signature_leadsTo.E)) : HintOk Tryz.prog i_Signature_leadsTo.E (bodyOf Tryz.f122) (.n (.a) (.n (.a) (.n (.n (.a) (.b (.s (i_Signature_leadsTo.S1)))) (.a)))) := HintOk.n1 (Q := (True) ∧ ((True) ∧ (((True) ∧ (SumOk Tryz.prog i_Signature_leadsTo.E (cB (cR (cL (cR (cR (bodyOf Tryz.f122)))))) (i_Signature_leadsTo.S1))) ∧ (True)))) (by kernel_rfl) ⟨trivial, ⟨trivial, ⟨⟨trivial, (i_Signature_leadsTo.ok1 hE)⟩, trivial⟩⟩⟩
theorem i_Signature_leadsTo.hE : EOk Tryz.prog (i_Signature_leadsTo.E) := EOk.of ttOk (⟨i_digits.fok, ⟨i_chain.fok, ⟨i_inclusionRoot.fok, ⟨i_endsLeaf.fok, trivial⟩⟩⟩⟩)
theorem i_Signature_leadsTo.fok : FOk Tryz.prog 122 i_Signature_leadsTo.fi :=
  fokS (E := i_Signature_leadsTo.E) (wy := ⟨[[none], [none]], [[], [], []], []⟩) (h := (fun gs => .n (.a) (.n (.a) (.n (.n (.a) (.b (.s (i_Signature_leadsTo.S1)))) (.a))))) (G := fun t g => i_Signature_leadsTo.F (fun y0 y1 => g (y0, y1)) t.1.1 t.1.2.1 t.1.2.2.1 t.2.1 t.2.2.1) (by kernel_rfl) i_Signature_leadsTo.hE Tryz.func122 (by kernel_rfl) rfl (Nat.le_refl _) (fun t => HintOk.n1 (by kernel_rfl) (i_Signature_leadsTo.hok i_Signature_leadsTo.hE)) (fun t g => i_Signature_leadsTo_nat g t.1.1 t.1.2.1 t.1.2.2.1 t.2.1 t.2.2.1) (fun t => by kernel_rfl)
/-! loop.example_g00220_impl.VerifySignature -/
def i_VerifySignature.j1 {R : Type} (kkn : ByteArray → ByteArray → Bool → Int → List ByteArray → List ByteArray → Option R) (root : ByteArray) (msg : ByteArray) (x : Int) (x1 : List ByteArray) (x2 : List ByteArray) : Option R :=
  (i_isText [root, msg]).bind fun r =>
  cond (!r) (kkn root msg true x x1 x2) (
    (i_isList_string x1).bind fun r1 =>
    cond (!r1) (kkn root msg true x x1 x2) (
      (i_isList_string x2).bind fun r2 =>
      kkn root msg (!r2) x x1 x2))
theorem i_VerifySignature.j1_nat {R S : Type} (g : R → Option S) (kkn : ByteArray → ByteArray → Bool → Int → List ByteArray → List ByteArray → Option R) (root : ByteArray) (msg : ByteArray) (x : Int) (x1 : List ByteArray) (x2 : List ByteArray) : i_VerifySignature.j1 (fun y0 y1 y2 y3 y4 y5 => (kkn y0 y1 y2 y3 y4 y5).bind g) root msg x x1 x2 = (i_VerifySignature.j1 kkn root msg x x1 x2).bind g := by
  simp only [i_VerifySignature.j1, grd_bind, cnd_bind, bnd_bind, non_bind]
def i_VerifySignature.j2 {R : Type} (kkn : ByteArray → ByteArray → Bool → Int → List ByteArray → List ByteArray → Option R) (root : ByteArray) (msg : ByteArray) (x : Int) (x1 : List ByteArray) (x2 : List ByteArray) : Option R :=
  (i_isHash [root]).bind fun r =>
  cond (!r) (kkn root msg true x x1 x2) (
    cond (decide ((mx2 (List.length x1 : Int) (List.length x2 : Int)) > (64 : Int))) (kkn root msg true x x1 x2) (
      (i_isHash x1).bind fun r1 =>
      cond (!r1) (kkn root msg true x x1 x2) (
        (i_isHash x2).bind fun r2 =>
        kkn root msg (!r2) x x1 x2)))
theorem i_VerifySignature.j2_nat {R S : Type} (g : R → Option S) (kkn : ByteArray → ByteArray → Bool → Int → List ByteArray → List ByteArray → Option R) (root : ByteArray) (msg : ByteArray) (x : Int) (x1 : List ByteArray) (x2 : List ByteArray) : i_VerifySignature.j2 (fun y0 y1 y2 y3 y4 y5 => (kkn y0 y1 y2 y3 y4 y5).bind g) root msg x x1 x2 = (i_VerifySignature.j2 kkn root msg x x1 x2).bind g := by
  simp only [i_VerifySignature.j2, grd_bind, cnd_bind, bnd_bind, non_bind]
def i_VerifySignature.F {R : Type} (kk : Int → Option R) (root : ByteArray) (msg : ByteArray) (x_Index : Int) (x_Parts : List ByteArray) (x_Path : List ByteArray) : Option R :=
  i_VerifySignature.j1 (fun root1 msg1 b x x1 x2 =>
    cond (b) (kk (2 : Int)) (
      i_VerifySignature.j2 (fun root2 msg2 b1 x3 x4 x5 =>
        cond (b1) (kk (1 : Int)) (
          (i_within x3 (0 : Int) (3 : Int)).bind fun r =>
          cond (!r) (kk (4 : Int)) (
            cond ((List.length x4 : Int) != (18 : Int)) (kk (4 : Int)) (
              (i_Signature_leadsTo x3 x4 x5 root2 msg2).bind fun r1 =>
              cond (!r1.2) (kk (10 : Int)) (cond (!r1.1) (kk (12 : Int)) (kk (0 : Int))))))) root1 msg1 x x1 x2)) root msg x_Index x_Parts x_Path
theorem i_VerifySignature.F_nat {R S : Type} (g : R → Option S) (kk : Int → Option R) (root : ByteArray) (msg : ByteArray) (x_Index : Int) (x_Parts : List ByteArray) (x_Path : List ByteArray) : i_VerifySignature.F (fun y0 => (kk y0).bind g) root msg x_Index x_Parts x_Path = (i_VerifySignature.F kk root msg x_Index x_Parts x_Path).bind g := by
  simp only [i_VerifySignature.F, grd_bind, cnd_bind, bnd_bind, non_bind, ← i_VerifySignature.j1_nat, ← i_VerifySignature.j2_nat]
def i_VerifySignature (root : ByteArray) (msg : ByteArray) (x_Index : Int) (x_Parts : List ByteArray) (x_Path : List ByteArray) : Option Int := i_VerifySignature.F (fun y0 => some y0) root msg x_Index x_Parts x_Path
theorem i_VerifySignature_nat {S : Type} (g : Int → Option S) (root : ByteArray) (msg : ByteArray) (x_Index : Int) (x_Parts : List ByteArray) (x_Path : List ByteArray) : i_VerifySignature.F (fun y0 => g y0) root msg x_Index x_Parts x_Path = (i_VerifySignature root msg x_Index x_Parts x_Path).bind g := i_VerifySignature.F_nat g (fun y0 => some y0) root msg x_Index x_Parts x_Path
def i_VerifySignature.out : Int → CRes := fun a => ⟨encL SV.enc [.one (.int .i64)] (a, ()), [encL SC.enc [] (), encL SC.enc [] (), encL SC.enc [] ()]⟩
def i_VerifySignature.ps : List PS := [.val [none], .val [none], .val [none, some (.str, false), some (.str, false)]]
def i_VerifySignature.sA : List SA := [.v (.one (.str)), .v (.one (.str)), .v (.agg [.int .i64, .slv [] .str, .slv [] .str])]
def i_VerifySignature.fi : FI := FIs i_VerifySignature.sA (Int) (fun t => i_VerifySignature t.1 t.2.1 t.2.2.1.1 t.2.2.1.2.1 t.2.2.1.2.2.1) i_VerifySignature.out i_VerifySignature.ps
def i_VerifySignature.E : Env := ⟨tt, lkF [(58, i_isList_string.fi), (61, i_within.fi), (84, i_isText.fi), (120, i_isHash.fi), (122, i_Signature_leadsTo.fi)], 78, 0, [], []⟩
def i_VerifySignature.sh1 : SK := ⟨[.v (.one (.str)), .v (.one (.str)), .v (.one (.bptr 0 0))], [.box [.int .i64, .slv [3] .str, .slv [3] .str]]⟩
def i_VerifySignature.sh1n : SK := ⟨[.v (.one (.str)), .v (.one (.str)), .v (.one (.bptr 0 0)), .v (.one (.bool))], [.box [.int .i64, .slv [3] .str, .slv [3] .str]]⟩
def i_VerifySignature.ko1 : Ex → List CastAt × List Nat
  | .nrm => ([], [0, 1, 5, 9])
  | .ret => ([], [])
  | .ext i => ([], [])
def i_VerifySignature.G1 (R : Type) (t : i_VerifySignature.sh1.T) (K : Ex → Kp → Option R) : Option R := i_VerifySignature.j1 (fun y0 y1 y2 y3 y4 y5 => K .nrm (SK.enc i_VerifySignature.sh1n ((y0, y1, (), y2, ()), ((y3, y4, y5, ()), ())))) t.1.1 t.1.2.1 t.2.1.1 t.2.1.2.1 t.2.1.2.2.1
def i_VerifySignature.S1 : Sum := ⟨([], [0, 1, 5]), sumF i_VerifySignature.sh1 (i_VerifySignature.G1), i_VerifySignature.ko1⟩
theorem i_VerifySignature.ok1 (hE : EOk Tryz.prog (i_VerifySignature.E)) : SumOk Tryz.prog i_VerifySignature.E (cL (cB (cL (cR (bodyOf Tryz.f77))))) (i_VerifySignature.S1) := by
  have hh : HintOk Tryz.prog i_VerifySignature.E (cL (cB (cL (cR (bodyOf Tryz.f77))))) (.a) := HintOk.n1 (Q := True) (by kernel_rfl) trivial
  exact sumS (kin := ([], [0, 1, 5])) (kout := i_VerifySignature.ko1) (sh := i_VerifySignature.sh1) (F := i_VerifySignature.G1) (ops_ok (hE.gv _)) (by kernel_rfl) hh (fun R t K => by kernel_rfl)
def i_VerifySignature.sh2 : SK := ⟨[.v (.one (.str)), .v (.one (.str)), .v (.one (.bptr 0 0))], [.box [.int .i64, .slv [3] .str, .slv [3] .str]]⟩
def i_VerifySignature.sh2n : SK := ⟨[.v (.one (.str)), .v (.one (.str)), .v (.one (.bptr 0 0)), .v (.one (.bool))], [.box [.int .i64, .slv [3] .str, .slv [3] .str]]⟩
def i_VerifySignature.ko2 : Ex → List CastAt × List Nat
  | .nrm => ([], [0, 1, 5, 27])
  | .ret => ([], [])
  | .ext i => ([], [])
def i_VerifySignature.G2 (R : Type) (t : i_VerifySignature.sh2.T) (K : Ex → Kp → Option R) : Option R := i_VerifySignature.j2 (fun y0 y1 y2 y3 y4 y5 => K .nrm (SK.enc i_VerifySignature.sh2n ((y0, y1, (), y2, ()), ((y3, y4, y5, ()), ())))) t.1.1 t.1.2.1 t.2.1.1 t.2.1.2.1 t.2.1.2.2.1
def i_VerifySignature.S2 : Sum := ⟨([], [0, 1, 5]), sumF i_VerifySignature.sh2 (i_VerifySignature.G2), i_VerifySignature.ko2⟩
theorem i_VerifySignature.ok2 (hE : EOk Tryz.prog (i_VerifySignature.E)) : SumOk Tryz.prog i_VerifySignature.E (cL (cR (cR (cB (cL (cR (bodyOf Tryz.f77))))))) (i_VerifySignature.S2) := by
  have hh : HintOk Tryz.prog i_VerifySignature.E (cL (cR (cR (cB (cL (cR (bodyOf Tryz.f77))))))) (.a) := HintOk.n1 (Q := True) (by kernel_rfl) trivial
  exact sumS (kin := ([], [0, 1, 5])) (kout := i_VerifySignature.ko2) (sh := i_VerifySignature.sh2) (F := i_VerifySignature.G2) (ops_ok (hE.gv _)) (by kernel_rfl) hh (fun R t K => by kernel_rfl)
theorem i_VerifySignature.hok (hE : EOk Tryz.prog (i_VerifySignature.E)) : HintOk Tryz.prog i_VerifySignature.E (bodyOf Tryz.f77) (.n (.a) (.n (.b (.n (.s (i_VerifySignature.S1)) (.n (.a) (.n (.s (i_VerifySignature.S2)) (.a))))) (.a))) := HintOk.n1 (Q := (True) ∧ (((SumOk Tryz.prog i_VerifySignature.E (cL (cB (cL (cR (bodyOf Tryz.f77))))) (i_VerifySignature.S1)) ∧ ((True) ∧ ((SumOk Tryz.prog i_VerifySignature.E (cL (cR (cR (cB (cL (cR (bodyOf Tryz.f77))))))) (i_VerifySignature.S2)) ∧ (True)))) ∧ (True))) (by kernel_rfl) ⟨trivial, ⟨⟨(i_VerifySignature.ok1 hE), ⟨trivial, ⟨(i_VerifySignature.ok2 hE), trivial⟩⟩⟩, trivial⟩⟩
theorem i_VerifySignature.hE : EOk Tryz.prog (i_VerifySignature.E) := EOk.of ttOk (⟨i_isList_string.fok, ⟨i_within.fok, ⟨i_isText.fok, ⟨i_isHash.fok, ⟨i_Signature_leadsTo.fok, trivial⟩⟩⟩⟩⟩)
theorem i_VerifySignature.fok : FOk Tryz.prog 77 i_VerifySignature.fi :=
  fokS (E := i_VerifySignature.E) (wy := ⟨[[none]], [[], [], []], []⟩) (h := (fun gs => .n (.a) (.n (.b (.n (.s (i_VerifySignature.S1)) (.n (.a) (.n (.s (i_VerifySignature.S2)) (.a))))) (.a)))) (G := fun t g => i_VerifySignature.F (fun y0 => g y0) t.1 t.2.1 t.2.2.1.1 t.2.2.1.2.1 t.2.2.1.2.2.1) (by kernel_rfl) i_VerifySignature.hE Tryz.func77 (by kernel_rfl) rfl (Nat.le_refl _) (fun t => HintOk.n1 (by kernel_rfl) (i_VerifySignature.hok i_VerifySignature.hE)) (fun t g => i_VerifySignature_nat g t.1 t.2.1 t.2.2.1.1 t.2.2.1.2.1 t.2.2.1.2.2.1) (fun t => by kernel_rfl)
/-! strconv.Itoa -/
theorem itoa_ex : ∃ f : Int → ByteArray, f = (fun n => ⟨(Lib.decDigits n.toNat).toArray⟩) := ⟨_, rfl⟩
/-- Chosen, so that the kernel does not unfold it. -/
noncomputable def itoaS : Int → ByteArray := Classical.choose itoa_ex
theorem itoaS_eq (n : Int) : itoaS n = ⟨(Lib.decDigits n.toNat).toArray⟩ := congrFun (Classical.choose_spec itoa_ex) n
noncomputable def strconv_Itoa.F {R : Type} (kk : ByteArray → Option R) (n : Int) : Option R := grd (decide (0 ≤ n) && decide (n < 100)) <| kk (itoaS n)
theorem strconv_Itoa_ex : ∃ f : Int → Option ByteArray, f = fun n => strconv_Itoa.F (fun y0 => some y0) n := ⟨_, rfl⟩
noncomputable def strconv_Itoa : Int → Option ByteArray := Classical.choose strconv_Itoa_ex
theorem strconv_Itoa_eq (n : Int) : strconv_Itoa n = strconv_Itoa.F (fun y0 => some y0) n := congrFun (Classical.choose_spec strconv_Itoa_ex) n
def strconv_Itoa.out : (ByteArray) → CRes := fun a => ⟨encL SV.enc [.one (.str)] (a, ()), [encL SC.enc [] ()]⟩
def strconv_Itoa.ps : List PS := [.val [none]]
def strconv_Itoa.sA : List SA := [.v (.one (.int .i64))]
noncomputable def strconv_Itoa.fi : FI := FIs strconv_Itoa.sA (ByteArray) (fun t => strconv_Itoa t.1) strconv_Itoa.out strconv_Itoa.ps
theorem strconv_Itoa.fok : FOk Tryz.prog 123 strconv_Itoa.fi := by
  refine fok_ext ⟨_, _, Tryz.func123, by kernel_rfl, rfl⟩ (by kernel_rfl) (fun a => [.str a]) (fun a => by kernel_rfl) (fun a => by kernel_rfl) (fun t a h w => ?_)
  obtain ⟨n, u⟩ := t
  have h' : grd (decide (0 ≤ n) && decide (n < 100)) (some (itoaS n)) = some a := (strconv_Itoa_eq n).symm.trans h
  cases hg : decide (0 ≤ n) && decide (n < 100) with
  | false => rw [hg] at h'; cases h'
  | true =>
    rw [hg] at h'
    obtain rfl := Option.some.inj h'
    rw [Bool.and_eq_true, decide_eq_true_iff, decide_eq_true_iff] at hg
    rw [itoaS_eq]
    have := Any.strconv_Itoa_small Tryz.lays171 n.toNat ((Int.toNat_lt hg.1).2 hg.2) w
    rw [Int.toNat_of_nonneg hg.1] at this
    refine this.mono ?_
    rintro e w' ⟨rfl, rfl⟩
    exact ⟨rfl, RowKit.Below.refl _ _⟩
/-! loop.example_g00220_impl.hexOf -/
def i_hexOf.l1 {R : Type} (kke0 : List Int → Option R) : Nat → ByteArray → Int → Int → List Int → Option R
  | 0, _, _, _, _ => none
  | n + 1, s, i, i1, out =>
    cond (decide (i1 < i)) (
      grd (gIx i1 (ByteArray.size s)) <|
      grd (gSh (4 : Int)) <|
      grd (gIx (iShr .u8 (byteAt s i1) (4 : Int)) (ByteArray.size (⟨#[48, 49, 50, 51, 52, 53, 54, 55, 56, 57, 97, 98, 99, 100, 101, 102]⟩ : ByteArray))) <|
      grd (gIx i1 (ByteArray.size s)) <|
      grd (gIx (iAnd .u8 (byteAt s i1) (15 : Int)) (ByteArray.size (⟨#[48, 49, 50, 51, 52, 53, 54, 55, 56, 57, 97, 98, 99, 100, 101, 102]⟩ : ByteArray))) <|
      grd (gRm (((List.length out) + (List.length ([byteAt (⟨#[48, 49, 50, 51, 52, 53, 54, 55, 56, 57, 97, 98, 99, 100, 101, 102]⟩ : ByteArray) (iShr .u8 (byteAt s i1) (4 : Int)), byteAt (⟨#[48, 49, 50, 51, 52, 53, 54, 55, 56, 57, 97, 98, 99, 100, 101, 102]⟩ : ByteArray) (iAnd .u8 (byteAt s i1) (15 : Int))]))) * 1)) <|
      i_hexOf.l1 kke0 n s i (IntKind.wrap .i64 (i1 + (1 : Int))) (out ++ ([byteAt (⟨#[48, 49, 50, 51, 52, 53, 54, 55, 56, 57, 97, 98, 99, 100, 101, 102]⟩ : ByteArray) (iShr .u8 (byteAt s i1) (4 : Int)), byteAt (⟨#[48, 49, 50, 51, 52, 53, 54, 55, 56, 57, 97, 98, 99, 100, 101, 102]⟩ : ByteArray) (iAnd .u8 (byteAt s i1) (15 : Int))]))) (kke0 out)
theorem i_hexOf.l1_nat {R S : Type} (g : R → Option S) (kke0 : List Int → Option R) : ∀ (n : Nat) (s : ByteArray) (i : Int) (i1 : Int) (out : List Int), i_hexOf.l1 (fun y0 => (kke0 y0).bind g) n s i i1 out = (i_hexOf.l1 kke0 n s i i1 out).bind g := by
  intro n
  induction n with
  | zero => intros; rfl
  | succ n ih => intros; simp only [i_hexOf.l1, grd_bind, cnd_bind, bnd_bind, non_bind, ih]
def i_hexOf.F {R : Type} (kk : ByteArray → Option R) (s : ByteArray) : Option R :=
  i_hexOf.l1 (fun out => kk (strL out)) fuel s (ByteArray.size s : Int) (0 : Int) ([] : List Int)
theorem i_hexOf.F_nat {R S : Type} (g : R → Option S) (kk : ByteArray → Option R) (s : ByteArray) : i_hexOf.F (fun y0 => (kk y0).bind g) s = (i_hexOf.F kk s).bind g := by
  simp only [i_hexOf.F, grd_bind, cnd_bind, bnd_bind, non_bind, ← i_hexOf.l1_nat]
def i_hexOf (s : ByteArray) : Option ByteArray := i_hexOf.F (fun y0 => some y0) s
theorem i_hexOf_nat {S : Type} (g : ByteArray → Option S) (s : ByteArray) : i_hexOf.F (fun y0 => g y0) s = (i_hexOf s).bind g := i_hexOf.F_nat g (fun y0 => some y0) s
def i_hexOf.out : ByteArray → CRes := fun a => ⟨encL SV.enc [.one (.str)] (a, ()), [encL SC.enc [] ()]⟩
def i_hexOf.ps : List PS := [.val [none]]
def i_hexOf.sA : List SA := [.v (.one (.str))]
def i_hexOf.fi : FI := FIs i_hexOf.sA (ByteArray) (fun t => i_hexOf t.1) i_hexOf.out i_hexOf.ps
def i_hexOf.E : Env := ⟨tt, lkF [], 27, 0, [], []⟩
def i_hexOf.sh1 : SK := ⟨[.v (.one (.str)), .v (.one (.slo 0)), .v (.one (.int .i64)), .v (.one (.int .i64))], [.arr (.int .u8) [] true]⟩
def i_hexOf.sh1e0 : SK := ⟨[.v (.one (.slo 0))], [.arr (.int .u8) [] true]⟩
def i_hexOf.ko1 : Ex → List CastAt × List Nat
  | .nrm => ([], [])
  | .ret => ([], [])
  | .ext i => cond (Nat.beq i 0) ([], [3]) ([], [])
def i_hexOf.G1 (n : Nat) (R : Type) (t : i_hexOf.sh1.T) (K : Ex → Kp → Option R) : Option R := i_hexOf.l1 (fun y0 => K (.ext 0) (SK.enc i_hexOf.sh1e0 (((), ()), (y0, ())))) n t.1.1 t.1.2.2.1 t.1.2.2.2.1 t.2.1
def i_hexOf.S1 : Sum := ⟨([], [0, 3, 7, 8]), sumF i_hexOf.sh1 (i_hexOf.G1 fuel), i_hexOf.ko1⟩
theorem i_hexOf.ok1 (hE : EOk Tryz.prog (i_hexOf.E)) : SumOk Tryz.prog i_hexOf.E (cB (cR (cL (cR (cR (bodyOf Tryz.f124)))))) (i_hexOf.S1) := by
  have hh : HintOk Tryz.prog i_hexOf.E (cB (cB (cR (cL (cR (cR (bodyOf Tryz.f124))))))) (.a) := HintOk.n1 (Q := True) (by kernel_rfl) trivial
  have h := loopS (kin := ([], [0, 3, 7, 8])) (kout := i_hexOf.ko1) (sh := i_hexOf.sh1) (F := i_hexOf.G1) (ops_ok (hE.gv _)) (by kernel_rfl) hh (fun _ _ _ => rfl) (fun n R t K => by kernel_rfl) fuel
  exact HintOk.n1 (c := (cB (cR (cL (cR (cR (bodyOf Tryz.f124))))))) (h := .s (i_hexOf.S1)) (P := Tryz.prog) (E := i_hexOf.E) (by kernel_rfl) h
theorem i_hexOf.hok (hE : EOk Tryz.prog (i_hexOf.E)) : HintOk Tryz.prog i_hexOf.E (bodyOf Tryz.f124) (.n (.a) (.n (.a) (.n (.n (.a) (.b (.s (i_hexOf.S1)))) (.a)))) := HintOk.n1 (Q := (True) ∧ ((True) ∧ (((True) ∧ (SumOk Tryz.prog i_hexOf.E (cB (cR (cL (cR (cR (bodyOf Tryz.f124)))))) (i_hexOf.S1))) ∧ (True)))) (by kernel_rfl) ⟨trivial, ⟨trivial, ⟨⟨trivial, (i_hexOf.ok1 hE)⟩, trivial⟩⟩⟩
theorem i_hexOf.hE : EOk Tryz.prog (i_hexOf.E) := EOk.of ttOk (trivial)
theorem i_hexOf.fok : FOk Tryz.prog 124 i_hexOf.fi :=
  fokS (E := i_hexOf.E) (wy := ⟨[[none]], [[]], []⟩) (h := (fun gs => .n (.a) (.n (.a) (.n (.n (.a) (.b (.s (i_hexOf.S1)))) (.a))))) (G := fun t g => i_hexOf.F (fun y0 => g y0) t.1) (by kernel_rfl) i_hexOf.hE Tryz.func124 (by kernel_rfl) rfl (Nat.le_refl _) (fun t => HintOk.n1 (by kernel_rfl) (i_hexOf.hok i_hexOf.hE)) (fun t g => i_hexOf_nat g t.1) (fun t => by kernel_rfl)
/-! _loop.example_g00220_impl.Statement_.text -/
def i_Statement_text.F {R : Type} (kk : ByteArray → Option R) (s_Size : Int) (s_Log : ByteArray) (s_Map : ByteArray) : Option R :=
  (strconv_Itoa s_Size).bind fun r =>
  grd (gCat (⟨#[115, 105, 122, 101, 32]⟩ : ByteArray) r) <|
  grd (gCat ((⟨#[115, 105, 122, 101, 32]⟩ : ByteArray) ++ r) (⟨#[32, 108, 111, 103, 32]⟩ : ByteArray)) <|
  (i_hexOf s_Log).bind fun r1 =>
  grd (gCat (((⟨#[115, 105, 122, 101, 32]⟩ : ByteArray) ++ r) ++ (⟨#[32, 108, 111, 103, 32]⟩ : ByteArray)) r1) <|
  grd (gCat ((((⟨#[115, 105, 122, 101, 32]⟩ : ByteArray) ++ r) ++ (⟨#[32, 108, 111, 103, 32]⟩ : ByteArray)) ++ r1) (⟨#[32, 109, 97, 112, 32]⟩ : ByteArray)) <|
  (i_hexOf s_Map).bind fun r2 =>
  grd (gCat (((((⟨#[115, 105, 122, 101, 32]⟩ : ByteArray) ++ r) ++ (⟨#[32, 108, 111, 103, 32]⟩ : ByteArray)) ++ r1) ++ (⟨#[32, 109, 97, 112, 32]⟩ : ByteArray)) r2) <|
  kk ((((((⟨#[115, 105, 122, 101, 32]⟩ : ByteArray) ++ r) ++ (⟨#[32, 108, 111, 103, 32]⟩ : ByteArray)) ++ r1) ++ (⟨#[32, 109, 97, 112, 32]⟩ : ByteArray)) ++ r2)
theorem i_Statement_text.F_nat {R S : Type} (g : R → Option S) (kk : ByteArray → Option R) (s_Size : Int) (s_Log : ByteArray) (s_Map : ByteArray) : i_Statement_text.F (fun y0 => (kk y0).bind g) s_Size s_Log s_Map = (i_Statement_text.F kk s_Size s_Log s_Map).bind g := by
  simp only [i_Statement_text.F, grd_bind, cnd_bind, bnd_bind, non_bind]
def i_Statement_text (s_Size : Int) (s_Log : ByteArray) (s_Map : ByteArray) : Option ByteArray := i_Statement_text.F (fun y0 => some y0) s_Size s_Log s_Map
theorem i_Statement_text_nat {S : Type} (g : ByteArray → Option S) (s_Size : Int) (s_Log : ByteArray) (s_Map : ByteArray) : i_Statement_text.F (fun y0 => g y0) s_Size s_Log s_Map = (i_Statement_text s_Size s_Log s_Map).bind g := i_Statement_text.F_nat g (fun y0 => some y0) s_Size s_Log s_Map
def i_Statement_text.out : ByteArray → CRes := fun a => ⟨encL SV.enc [.one (.str)] (a, ()), [encL SC.enc [] ()]⟩
def i_Statement_text.ps : List PS := [.val [none, none, none]]
def i_Statement_text.sA : List SA := [.v (.agg [.int .i64, .str, .str])]
def i_Statement_text.fi : FI := FIs i_Statement_text.sA (ByteArray) (fun t => i_Statement_text t.1.1 t.1.2.1 t.1.2.2.1) i_Statement_text.out i_Statement_text.ps
def i_Statement_text.E : Env := ⟨tt, lkF [(123, strconv_Itoa.fi), (124, i_hexOf.fi)], 17, 0, [], []⟩
theorem i_Statement_text.hok (hE : EOk Tryz.prog (i_Statement_text.E)) : HintOk Tryz.prog i_Statement_text.E (bodyOf Tryz.f78) (.a) := HintOk.n1 (Q := True) (by kernel_rfl) trivial
theorem i_Statement_text.hE : EOk Tryz.prog (i_Statement_text.E) := EOk.of ttOk (⟨strconv_Itoa.fok, ⟨i_hexOf.fok, trivial⟩⟩)
theorem i_Statement_text.fok : FOk Tryz.prog 78 i_Statement_text.fi :=
  fokS (E := i_Statement_text.E) (wy := ⟨[[none]], [[]], []⟩) (h := (fun gs => .a)) (G := fun t g => i_Statement_text.F (fun y0 => g y0) t.1.1 t.1.2.1 t.1.2.2.1) (by kernel_rfl) i_Statement_text.hE Tryz.func78 (by kernel_rfl) rfl (Nat.le_refl _) (fun t => HintOk.n1 (by kernel_rfl) (i_Statement_text.hok i_Statement_text.hE)) (fun t g => i_Statement_text_nat g t.1.1 t.1.2.1 t.1.2.2.1) (fun t => by kernel_rfl)
/-! __loop.example_g00220_impl.prover_.growth -/
def i_prover_growth.j1 {R : Type} (rc : List ByteArray → Bool → List ByteArray → Int → Int → Bool → ByteArray → Option (ByteArray × ByteArray × List ByteArray × Bool × List ByteArray)) (kkn : Int → Int → Bool → ByteArray → Bool → List ByteArray → Bool → List ByteArray → Option R) (m : Int) (n_ : Int) (known : Bool) (root : ByteArray) (p : List ByteArray) (p1 : Bool) (m1 : List ByteArray) : Option R :=
  cond (m == n_) (kkn m n_ known root known p p1 m1) (kkn m n_ known root false p p1 m1)
theorem i_prover_growth.j1_nat {R S : Type} (g : R → Option S) (rc : List ByteArray → Bool → List ByteArray → Int → Int → Bool → ByteArray → Option (ByteArray × ByteArray × List ByteArray × Bool × List ByteArray)) (kkn : Int → Int → Bool → ByteArray → Bool → List ByteArray → Bool → List ByteArray → Option R) (m : Int) (n_ : Int) (known : Bool) (root : ByteArray) (p : List ByteArray) (p1 : Bool) (m1 : List ByteArray) : i_prover_growth.j1 rc (fun y0 y1 y2 y3 y4 y5 y6 y7 => (kkn y0 y1 y2 y3 y4 y5 y6 y7).bind g) m n_ known root p p1 m1 = (i_prover_growth.j1 rc kkn m n_ known root p p1 m1).bind g := by
  simp only [i_prover_growth.j1, grd_bind, cnd_bind, bnd_bind, non_bind]
def i_prover_growth.F {R : Type} (rc : List ByteArray → Bool → List ByteArray → Int → Int → Bool → ByteArray → Option (ByteArray × ByteArray × List ByteArray × Bool × List ByteArray)) (kk : ByteArray → ByteArray → List ByteArray → Bool → List ByteArray → Option R) (p_proof : List ByteArray) (p_bad : Bool) (p_steps : List ByteArray) (m : Int) (n_ : Int) (known : Bool) (root : ByteArray) : Option R :=
  i_prover_growth.j1 rc (fun m1 n_1 known1 root1 b p p1 m2 =>
    cond (b) (kk root1 root1 p p1 m2) (
      cond (m1 == n_1) (
        (i_prover_next p p1 m2).bind fun r =>
        kk r.1 r.1 r.2.1 r.2.2.1 r.2.2.2) (
        (i_split n_1).bind fun r1 =>
        cond (decide (m1 ≤ r1)) (
          (rc p p1 m2 m1 r1 known1 root1).bind fun r2 =>
          (i_prover_next r2.2.2.1 r2.2.2.2.1 r2.2.2.2.2).bind fun r3 =>
          (i_nodeHash r2.2.1 r3.1).bind fun r4 =>
          kk r2.1 r4 r3.2.1 r3.2.2.1 r3.2.2.2) (
          (rc p p1 m2 (IntKind.wrap .i64 (m1 - r1)) (IntKind.wrap .i64 (n_1 - r1)) false root1).bind fun r5 =>
          (i_prover_next r5.2.2.1 r5.2.2.2.1 r5.2.2.2.2).bind fun r6 =>
          (i_nodeHash r6.1 r5.1).bind fun r7 =>
          (i_nodeHash r6.1 r5.2.1).bind fun r8 =>
          kk r7 r8 r6.2.1 r6.2.2.1 r6.2.2.2)))) m n_ known root p_proof p_bad p_steps
theorem i_prover_growth.F_nat {R S : Type} (g : R → Option S) (rc : List ByteArray → Bool → List ByteArray → Int → Int → Bool → ByteArray → Option (ByteArray × ByteArray × List ByteArray × Bool × List ByteArray)) (kk : ByteArray → ByteArray → List ByteArray → Bool → List ByteArray → Option R) (p_proof : List ByteArray) (p_bad : Bool) (p_steps : List ByteArray) (m : Int) (n_ : Int) (known : Bool) (root : ByteArray) : i_prover_growth.F rc (fun y0 y1 y2 y3 y4 => (kk y0 y1 y2 y3 y4).bind g) p_proof p_bad p_steps m n_ known root = (i_prover_growth.F rc kk p_proof p_bad p_steps m n_ known root).bind g := by
  simp only [i_prover_growth.F, grd_bind, cnd_bind, bnd_bind, non_bind, ← i_prover_growth.j1_nat]
def i_prover_growth : Nat → List ByteArray → Bool → List ByteArray → Int → Int → Bool → ByteArray → Option (ByteArray × ByteArray × List ByteArray × Bool × List ByteArray)
  | 0, _, _, _, _, _, _, _ => none
  | fu + 1, p_proof, p_bad, p_steps, m, n_, known, root => i_prover_growth.F (i_prover_growth fu) (fun y0 y1 y2 y3 y4 => some (y0, y1, y2, y3, y4)) p_proof p_bad p_steps m n_ known root
theorem i_prover_growth_nat {S : Type} (fu : Nat) (g : (ByteArray × ByteArray × List ByteArray × Bool × List ByteArray) → Option S) (p_proof : List ByteArray) (p_bad : Bool) (p_steps : List ByteArray) (m : Int) (n_ : Int) (known : Bool) (root : ByteArray) : i_prover_growth.F (i_prover_growth fu) (fun y0 y1 y2 y3 y4 => g (y0, y1, y2, y3, y4)) p_proof p_bad p_steps m n_ known root = (i_prover_growth (fu + 1) p_proof p_bad p_steps m n_ known root).bind g := i_prover_growth.F_nat g (i_prover_growth fu) (fun y0 y1 y2 y3 y4 => some (y0, y1, y2, y3, y4)) p_proof p_bad p_steps m n_ known root
def i_prover_growth.out : (ByteArray × ByteArray × List ByteArray × Bool × List ByteArray) → CRes := fun a => ⟨encL SV.enc [.one (.str), .one (.str)] (a.1, a.2.1, ()), [encL SC.enc [.slv [1] .str, .bool, .own [] .str true] (a.2.2.1, a.2.2.2.1, a.2.2.2.2, ()), encL SC.enc [] (), encL SC.enc [] (), encL SC.enc [] (), encL SC.enc [] ()]⟩
def i_prover_growth.ps : List PS := [.ptr [some (.str, false), none, some (.str, true)], .val [none], .val [none], .val [none], .val [none]]
def i_prover_growth.sA : List SA := [.ptr [.slv [] .str, .bool, .own [] .str true], .v (.one (.int .i64)), .v (.one (.int .i64)), .v (.one (.bool)), .v (.one (.str))]
def i_prover_growth.fi (fu : Nat) : FI := FIs i_prover_growth.sA (ByteArray × ByteArray × List ByteArray × Bool × List ByteArray) (fun t => i_prover_growth fu t.1.1 t.1.2.1 t.1.2.2.1 t.2.1 t.2.2.1 t.2.2.2.1 t.2.2.2.2.1) i_prover_growth.out i_prover_growth.ps
def i_prover_growth.E (fu : Nat) : Env := ⟨tt, lkF [(205, i_prover_growth.fi fu), (225, i_split.fi), (227, i_prover_next.fi), (232, i_nodeHash.fi)], 75, 2, [], []⟩
def i_prover_growth.sh1 : SK := ⟨[.v (.one (.bptr 0 0)), .v (.one (.int .i64)), .v (.one (.int .i64)), .v (.one (.bool)), .v (.one (.str))], [.box [.slv [1] .str, .bool, .slo 1], .arr .str [] true]⟩
def i_prover_growth.sh1n : SK := ⟨[.v (.one (.bptr 0 0)), .v (.one (.int .i64)), .v (.one (.int .i64)), .v (.one (.bool)), .v (.one (.str)), .v (.one (.bool))], [.box [.slv [1] .str, .bool, .slo 1], .arr .str [] true]⟩
def i_prover_growth.ko1 : Ex → List CastAt × List Nat
  | .nrm => ([], [0, 1, 2, 3, 4, 19])
  | .ret => ([], [])
  | .ext i => ([], [])
def i_prover_growth.G1 (fu : Nat) (R : Type) (t : i_prover_growth.sh1.T) (K : Ex → Kp → Option R) : Option R := i_prover_growth.j1 (i_prover_growth fu) (fun y0 y1 y2 y3 y4 y5 y6 y7 => K .nrm (SK.enc i_prover_growth.sh1n (((), y0, y1, y2, y3, y4, ()), ((y5, y6, (), ()), y7, ())))) t.1.2.1 t.1.2.2.1 t.1.2.2.2.1 t.1.2.2.2.2.1 t.2.1.1 t.2.1.2.1 t.2.2.1
def i_prover_growth.S1 (fu : Nat) : Sum := ⟨([], [0, 1, 2, 3, 4]), sumF i_prover_growth.sh1 (i_prover_growth.G1 fu), i_prover_growth.ko1⟩
theorem i_prover_growth.ok1 (fu : Nat) (hE : EOk Tryz.prog (i_prover_growth.E fu)) : SumOk Tryz.prog (i_prover_growth.E fu) (cL (cB (cL (cR (bodyOf Tryz.f205))))) (i_prover_growth.S1 fu) := by
  have hh : HintOk Tryz.prog (i_prover_growth.E fu) (cL (cB (cL (cR (bodyOf Tryz.f205))))) (.a) := HintOk.n1 (Q := True) (by kernel_rfl) trivial
  exact sumS (kin := ([], [0, 1, 2, 3, 4])) (kout := i_prover_growth.ko1) (sh := i_prover_growth.sh1) (F := i_prover_growth.G1 fu) (ops_ok (hE.gv _)) (by kernel_rfl) hh (fun R t K => by kernel_rfl)
theorem i_prover_growth.hok (fu : Nat) (hE : EOk Tryz.prog (i_prover_growth.E fu)) : HintOk Tryz.prog (i_prover_growth.E fu) (bodyOf Tryz.f205) (.n (.a) (.n (.b (.n (.s (i_prover_growth.S1 fu)) (.a))) (.a))) := HintOk.n1 (Q := (True) ∧ (((SumOk Tryz.prog (i_prover_growth.E fu) (cL (cB (cL (cR (bodyOf Tryz.f205))))) (i_prover_growth.S1 fu)) ∧ (True)) ∧ (True))) (by kernel_rfl) ⟨trivial, ⟨⟨(i_prover_growth.ok1 fu hE), trivial⟩, trivial⟩⟩
theorem i_prover_growth.fok0 : FOk Tryz.prog 205 (i_prover_growth.fi 0) := FOk.zero ⟨_, _, Tryz.func205, by kernel_rfl, rfl⟩ (fun _ => rfl)
theorem i_prover_growth.fok1 (fu : Nat) (ih : FOk Tryz.prog 205 (i_prover_growth.fi fu)) : FOk Tryz.prog 205 (i_prover_growth.fi (fu + 1)) := by
  have hE : EOk Tryz.prog (i_prover_growth.E fu) := EOk.of ttOk (⟨ih, ⟨i_split.fok, ⟨i_prover_next.fok, ⟨i_nodeHash.fok, trivial⟩⟩⟩⟩)
  exact fokS (E := i_prover_growth.E fu) (wy := ⟨[[none], [none]], [[some (.str, false), none, some (.str, true)], [], [], [], []], []⟩) (h := (fun gs => .n (.a) (.n (.b (.n (.s (i_prover_growth.S1 fu)) (.a))) (.a)))) (G := fun t g => i_prover_growth.F (i_prover_growth fu) (fun y0 y1 y2 y3 y4 => g (y0, y1, y2, y3, y4)) t.1.1 t.1.2.1 t.1.2.2.1 t.2.1 t.2.2.1 t.2.2.2.1 t.2.2.2.2.1) (by kernel_rfl) hE Tryz.func205 (by kernel_rfl) rfl (Nat.le_refl _) (fun t => HintOk.n1 (by kernel_rfl) (i_prover_growth.hok fu hE)) (fun t g => i_prover_growth_nat fu g t.1.1 t.1.2.1 t.1.2.2.1 t.2.1 t.2.2.1 t.2.2.2.1 t.2.2.2.2.1) (fun t => by kernel_rfl)
theorem i_prover_growth.fok (fu : Nat) : FOk Tryz.prog 205 (i_prover_growth.fi fu) := Nat.rec i_prover_growth.fok0 i_prover_growth.fok1 fu
/-! loop.example_g00220_impl.growthRoots -/
def i_growthRoots.F {R : Type} (kk : ByteArray → ByteArray → Int → Option R) (old : Int) (size : Int) (root : ByteArray) (proof : List ByteArray) : Option R :=
  (i_within size (1 : Int) (64 : Int)).bind fun r =>
  cond (!r) (kk ByteArray.empty ByteArray.empty (4 : Int)) (
    (i_within old (1 : Int) size).bind fun r1 =>
    cond (!r1) (kk ByteArray.empty ByteArray.empty (4 : Int)) (
      (i_prover_growth fuel proof false [] old size true root).bind fun r2 =>
      cond (r2.2.2.2.1) (kk ByteArray.empty ByteArray.empty (10 : Int)) (
        cond (decide ((List.length r2.2.2.1 : Int) > (0 : Int))) (kk ByteArray.empty ByteArray.empty (10 : Int)) (kk r2.1 r2.2.1 (0 : Int)))))
theorem i_growthRoots.F_nat {R S : Type} (g : R → Option S) (kk : ByteArray → ByteArray → Int → Option R) (old : Int) (size : Int) (root : ByteArray) (proof : List ByteArray) : i_growthRoots.F (fun y0 y1 y2 => (kk y0 y1 y2).bind g) old size root proof = (i_growthRoots.F kk old size root proof).bind g := by
  simp only [i_growthRoots.F, grd_bind, cnd_bind, bnd_bind, non_bind]
def i_growthRoots (old : Int) (size : Int) (root : ByteArray) (proof : List ByteArray) : Option (ByteArray × ByteArray × Int) := i_growthRoots.F (fun y0 y1 y2 => some (y0, y1, y2)) old size root proof
theorem i_growthRoots_nat {S : Type} (g : (ByteArray × ByteArray × Int) → Option S) (old : Int) (size : Int) (root : ByteArray) (proof : List ByteArray) : i_growthRoots.F (fun y0 y1 y2 => g (y0, y1, y2)) old size root proof = (i_growthRoots old size root proof).bind g := i_growthRoots.F_nat g (fun y0 y1 y2 => some (y0, y1, y2)) old size root proof
def i_growthRoots.out : (ByteArray × ByteArray × Int) → CRes := fun a => ⟨encL SV.enc [.one (.str), .one (.str), .one (.int .i64)] (a.1, a.2.1, a.2.2, ()), [encL SC.enc [] (), encL SC.enc [] (), encL SC.enc [] (), encL SC.enc [] ()]⟩
def i_growthRoots.ps : List PS := [.val [none], .val [none], .val [none], .val [some (.str, false)]]
def i_growthRoots.sA : List SA := [.v (.one (.int .i64)), .v (.one (.int .i64)), .v (.one (.str)), .v (.one (.slv [] .str))]
def i_growthRoots.fi : FI := FIs i_growthRoots.sA (ByteArray × ByteArray × Int) (fun t => i_growthRoots t.1 t.2.1 t.2.2.1 t.2.2.2.1) i_growthRoots.out i_growthRoots.ps
def i_growthRoots.E : Env := ⟨tt, lkF [(61, i_within.fi), (205, i_prover_growth.fi fuel)], 48, 0, [], []⟩
theorem i_growthRoots.hok (hE : EOk Tryz.prog (i_growthRoots.E)) : HintOk Tryz.prog i_growthRoots.E (bodyOf Tryz.f169) (.a) := HintOk.n1 (Q := True) (by kernel_rfl) trivial
theorem i_growthRoots.hE : EOk Tryz.prog (i_growthRoots.E) := EOk.of ttOk (⟨i_within.fok, ⟨i_prover_growth.fok fuel, trivial⟩⟩)
theorem i_growthRoots.fok : FOk Tryz.prog 169 i_growthRoots.fi :=
  fokS (E := i_growthRoots.E) (wy := ⟨[[none], [none], [none]], [[], [], [], []], []⟩) (h := (fun gs => .a)) (G := fun t g => i_growthRoots.F (fun y0 y1 y2 => g (y0, y1, y2)) t.1 t.2.1 t.2.2.1 t.2.2.2.1) (by kernel_rfl) i_growthRoots.hE Tryz.func169 (by kernel_rfl) rfl (Nat.le_refl _) (fun t => HintOk.n1 (by kernel_rfl) (i_growthRoots.hok i_growthRoots.hE)) (fun t g => i_growthRoots_nat g t.1 t.2.1 t.2.2.1 t.2.2.2.1) (fun t => by kernel_rfl)
end
end Go.Proofs.YtdpjbeeokimnaaaGreatDoorA
