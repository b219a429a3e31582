/-
  Functions of the program, and that the small machine's runs are these. No condition.
  Printed by wip/amp/main.py (a session's own program) out of Lean's print of the program; Lean's kernel checks it.
-/
import Derived.Test.YtdpjbeeokimnaaaXqT
namespace Go.Proofs.YtdpjbeeokimnaaaA
open Go
noncomputable section
set_option linter.unusedVariables false
set_option linter.unusedSimpArgs false
set_option maxRecDepth 100000

/-! loop.example_g00220_spec.l06Hashes -/
def s_l06Hashes.l1 {R : Type} (kke0 : Option R) (kkr : Bool → Option R) : Nat → List ByteArray → Int → Option R
  | 0, _, _ => none
  | n + 1, list, i =>
    cond (decide (i < (List.length list : Int))) (
      grd (gIx i (List.length list)) <|
      cond ((ByteArray.size (rdE (.str : Kd) list (Int.toNat i)) : Int) != (32 : Int)) (kkr false) (s_l06Hashes.l1 kke0 kkr n list (IntKind.wrap .i64 (i + (1 : Int))))) (kke0)
theorem s_l06Hashes.l1_nat {R S : Type} (g : R → Option S) (kke0 : Option R) (kkr : Bool → Option R) : ∀ (n : Nat) (list : List ByteArray) (i : Int), s_l06Hashes.l1 (kke0.bind g) (fun y0 => (kkr y0).bind g) n list i = (s_l06Hashes.l1 kke0 kkr n list i).bind g := by
  intro n
  induction n with
  | zero => intros; rfl
  | succ n ih => intros; simp only [s_l06Hashes.l1, grd_bind, cnd_bind, bnd_bind, non_bind, ih]
def s_l06Hashes.F {R : Type} (kk : Bool → Option R) (list : List ByteArray) : Option R :=
  cond (decide ((List.length list : Int) > (64 : Int))) (kk false) (s_l06Hashes.l1 (kk true) (fun b => kk b) fuel list (0 : Int))
theorem s_l06Hashes.F_nat {R S : Type} (g : R → Option S) (kk : Bool → Option R) (list : List ByteArray) : s_l06Hashes.F (fun y0 => (kk y0).bind g) list = (s_l06Hashes.F kk list).bind g := by
  simp only [s_l06Hashes.F, grd_bind, cnd_bind, bnd_bind, non_bind, ← s_l06Hashes.l1_nat]
def s_l06Hashes (list : List ByteArray) : Option Bool := s_l06Hashes.F (fun y0 => some y0) list
theorem s_l06Hashes_nat {S : Type} (g : Bool → Option S) (list : List ByteArray) : s_l06Hashes.F (fun y0 => g y0) list = (s_l06Hashes list).bind g := s_l06Hashes.F_nat g (fun y0 => some y0) list
def s_l06Hashes.out : Bool → CRes := fun a => ⟨encL SV.enc [.one (.bool)] (a, ()), [encL SC.enc [] ()]⟩
def s_l06Hashes.ps : List PS := [.val [some (.str, false)]]
def s_l06Hashes.sA : List SA := [.v (.one (.slv [] .str))]
def s_l06Hashes.fi : FI := FIs s_l06Hashes.sA (Bool) (fun t => s_l06Hashes t.1) s_l06Hashes.out s_l06Hashes.ps
def s_l06Hashes.E : Env := ⟨tt, lkF [], 19, 0, [], []⟩
def s_l06Hashes.sh1 : SK := ⟨[.v (.one (.slv [1] .str)), .v (.one (.int .i64))], []⟩
def s_l06Hashes.sh1e0 : SK := ⟨[], []⟩
def s_l06Hashes.sh1r : SK := ⟨[.v (.one (.bool))], []⟩
def s_l06Hashes.ko1 : Ex → List CastAt × List Nat
  | .nrm => ([], [])
  | .ret => ([], [2])
  | .ext i => cond (Nat.beq i 0) ([], []) ([], [])
def s_l06Hashes.G1 (n : Nat) (R : Type) (t : s_l06Hashes.sh1.T) (K : Ex → Kp → Option R) : Option R := s_l06Hashes.l1 (K (.ext 0) (SK.enc s_l06Hashes.sh1e0 ((), ()))) (fun y0 => K .ret (SK.enc s_l06Hashes.sh1r ((y0, ()), ()))) n t.1.1 t.1.2.1
def s_l06Hashes.S1 : Sum := ⟨([], [0, 3]), sumF s_l06Hashes.sh1 (s_l06Hashes.G1 fuel), s_l06Hashes.ko1⟩
theorem s_l06Hashes.ok1 (hE : EOk Try.prog (s_l06Hashes.E)) : SumOk Try.prog s_l06Hashes.E (cB (cR (cL (cR (cR (bodyOf Try.f68)))))) (s_l06Hashes.S1) := by
  have hh : HintOk Try.prog s_l06Hashes.E (cB (cB (cR (cL (cR (cR (bodyOf Try.f68))))))) (.a) := HintOk.n1 (Q := True) (by kernel_rfl) trivial
  have h := loopS (kin := ([], [0, 3])) (kout := s_l06Hashes.ko1) (sh := s_l06Hashes.sh1) (F := s_l06Hashes.G1) (ops_ok (hE.gv _)) (by kernel_rfl) hh (fun _ _ _ => rfl) (fun n R t K => by kernel_rfl) fuel
  exact HintOk.n1 (c := (cB (cR (cL (cR (cR (bodyOf Try.f68))))))) (h := .s (s_l06Hashes.S1)) (P := Try.prog) (E := s_l06Hashes.E) (by kernel_rfl) h
theorem s_l06Hashes.hok (hE : EOk Try.prog (s_l06Hashes.E)) : HintOk Try.prog s_l06Hashes.E (bodyOf Try.f68) (.n (.a) (.n (.a) (.n (.n (.a) (.b (.s (s_l06Hashes.S1)))) (.a)))) := HintOk.n1 (Q := (True) ∧ ((True) ∧ (((True) ∧ (SumOk Try.prog s_l06Hashes.E (cB (cR (cL (cR (cR (bodyOf Try.f68)))))) (s_l06Hashes.S1))) ∧ (True)))) (by kernel_rfl) ⟨trivial, ⟨trivial, ⟨⟨trivial, (s_l06Hashes.ok1 hE)⟩, trivial⟩⟩⟩
theorem s_l06Hashes.hE : EOk Try.prog (s_l06Hashes.E) := EOk.of ttOk (trivial)
theorem s_l06Hashes.fok : FOk Try.prog 68 s_l06Hashes.fi :=
  fokS (E := s_l06Hashes.E) (wy := ⟨[[none]], [[]], []⟩) (h := (fun gs => .n (.a) (.n (.a) (.n (.n (.a) (.b (.s (s_l06Hashes.S1)))) (.a))))) (G := fun t g => s_l06Hashes.F (fun y0 => g y0) t.1) (by kernel_rfl) s_l06Hashes.hE Try.func68 (by kernel_rfl) rfl (Nat.le_refl _) (fun t => HintOk.n1 (by kernel_rfl) (s_l06Hashes.hok s_l06Hashes.hE)) (fun t g => s_l06Hashes_nat g t.1) (fun t => by kernel_rfl)
/-! loop.example_g00220_spec.l01In -/
def s_l01In.F {R : Type} (kk : Bool → Option R) (n_ : Int) (low : Int) (high : Int) : Option R :=
  cond (decide (n_ ≥ low)) (kk (decide (n_ ≤ high))) (kk false)
theorem s_l01In.F_nat {R S : Type} (g : R → Option S) (kk : Bool → Option R) (n_ : Int) (low : Int) (high : Int) : s_l01In.F (fun y0 => (kk y0).bind g) n_ low high = (s_l01In.F kk n_ low high).bind g := by
  simp only [s_l01In.F, grd_bind, cnd_bind, bnd_bind, non_bind]
def s_l01In (n_ : Int) (low : Int) (high : Int) : Option Bool := s_l01In.F (fun y0 => some y0) n_ low high
theorem s_l01In_nat {S : Type} (g : Bool → Option S) (n_ : Int) (low : Int) (high : Int) : s_l01In.F (fun y0 => g y0) n_ low high = (s_l01In n_ low high).bind g := s_l01In.F_nat g (fun y0 => some y0) n_ low high
def s_l01In.out : Bool → CRes := fun a => ⟨encL SV.enc [.one (.bool)] (a, ()), [encL SC.enc [] (), encL SC.enc [] (), encL SC.enc [] ()]⟩
def s_l01In.ps : List PS := [.val [none], .val [none], .val [none]]
def s_l01In.sA : List SA := [.v (.one (.int .i64)), .v (.one (.int .i64)), .v (.one (.int .i64))]
def s_l01In.fi : FI := FIs s_l01In.sA (Bool) (fun t => s_l01In t.1 t.2.1 t.2.2.1) s_l01In.out s_l01In.ps
def s_l01In.E : Env := ⟨tt, lkF [], 15, 0, [], []⟩
theorem s_l01In.hok (hE : EOk Try.prog (s_l01In.E)) : HintOk Try.prog s_l01In.E (bodyOf Try.f69) (.a) := HintOk.n1 (Q := True) (by kernel_rfl) trivial
theorem s_l01In.hE : EOk Try.prog (s_l01In.E) := EOk.of ttOk (trivial)
theorem s_l01In.fok : FOk Try.prog 69 s_l01In.fi :=
  fokS (E := s_l01In.E) (wy := ⟨[[none]], [[], [], []], []⟩) (h := (fun gs => .a)) (G := fun t g => s_l01In.F (fun y0 => g y0) t.1 t.2.1 t.2.2.1) (by kernel_rfl) s_l01In.hE Try.func69 (by kernel_rfl) rfl (Nat.le_refl _) (fun t => HintOk.n1 (by kernel_rfl) (s_l01In.hok s_l01In.hE)) (fun t g => s_l01In_nat g t.1 t.2.1 t.2.2.1) (fun t => by kernel_rfl)
/-! loop.example_g00220_spec.l06Half -/
def s_l06Half.l1 {R : Type} (kke0 : Int → Option R) : Nat → Int → Int → Option R
  | 0, _, _ => none
  | n + 1, n_, k_ =>
    cond (decide ((IntKind.wrap .i64 ((2 : Int) * k_)) < n_)) (s_l06Half.l1 kke0 n n_ (IntKind.wrap .i64 (k_ * (2 : Int)))) (kke0 k_)
theorem s_l06Half.l1_nat {R S : Type} (g : R → Option S) (kke0 : Int → Option R) : ∀ (n : Nat) (n_ : Int) (k_ : Int), s_l06Half.l1 (fun y0 => (kke0 y0).bind g) n n_ k_ = (s_l06Half.l1 kke0 n n_ k_).bind g := by
  intro n
  induction n with
  | zero => intros; rfl
  | succ n ih => intros; simp only [s_l06Half.l1, grd_bind, cnd_bind, bnd_bind, non_bind, ih]
def s_l06Half.F {R : Type} (kk : Int → Option R) (n_ : Int) : Option R :=
  s_l06Half.l1 (fun k_ => kk k_) fuel n_ (1 : Int)
theorem s_l06Half.F_nat {R S : Type} (g : R → Option S) (kk : Int → Option R) (n_ : Int) : s_l06Half.F (fun y0 => (kk y0).bind g) n_ = (s_l06Half.F kk n_).bind g := by
  simp only [s_l06Half.F, grd_bind, cnd_bind, bnd_bind, non_bind, ← s_l06Half.l1_nat]
def s_l06Half (n_ : Int) : Option Int := s_l06Half.F (fun y0 => some y0) n_
theorem s_l06Half_nat {S : Type} (g : Int → Option S) (n_ : Int) : s_l06Half.F (fun y0 => g y0) n_ = (s_l06Half n_).bind g := s_l06Half.F_nat g (fun y0 => some y0) n_
def s_l06Half.out : Int → CRes := fun a => ⟨encL SV.enc [.one (.int .i64)] (a, ()), [encL SC.enc [] ()]⟩
def s_l06Half.ps : List PS := [.val [none]]
def s_l06Half.sA : List SA := [.v (.one (.int .i64))]
def s_l06Half.fi : FI := FIs s_l06Half.sA (Int) (fun t => s_l06Half t.1) s_l06Half.out s_l06Half.ps
def s_l06Half.E : Env := ⟨tt, lkF [], 11, 0, [], []⟩
def s_l06Half.sh1 : SK := ⟨[.v (.one (.int .i64)), .v (.one (.int .i64))], []⟩
def s_l06Half.sh1e0 : SK := ⟨[.v (.one (.int .i64))], []⟩
def s_l06Half.ko1 : Ex → List CastAt × List Nat
  | .nrm => ([], [])
  | .ret => ([], [])
  | .ext i => cond (Nat.beq i 0) ([], [3]) ([], [])
def s_l06Half.G1 (n : Nat) (R : Type) (t : s_l06Half.sh1.T) (K : Ex → Kp → Option R) : Option R := s_l06Half.l1 (fun y0 => K (.ext 0) (SK.enc s_l06Half.sh1e0 ((y0, ()), ()))) n t.1.1 t.1.2.1
def s_l06Half.S1 : Sum := ⟨([], [0, 3]), sumF s_l06Half.sh1 (s_l06Half.G1 fuel), s_l06Half.ko1⟩
theorem s_l06Half.ok1 (hE : EOk Try.prog (s_l06Half.E)) : SumOk Try.prog s_l06Half.E (cB (cL (cR (cR (bodyOf Try.f115))))) (s_l06Half.S1) := by
  have hh : HintOk Try.prog s_l06Half.E (cB (cB (cL (cR (cR (bodyOf Try.f115)))))) (.a) := HintOk.n1 (Q := True) (by kernel_rfl) trivial
  have h := loopS (kin := ([], [0, 3])) (kout := s_l06Half.ko1) (sh := s_l06Half.sh1) (F := s_l06Half.G1) (ops_ok (hE.gv _)) (by kernel_rfl) hh (fun _ _ _ => rfl) (fun n R t K => by kernel_rfl) fuel
  exact HintOk.n1 (c := (cB (cL (cR (cR (bodyOf Try.f115)))))) (h := .s (s_l06Half.S1)) (P := Try.prog) (E := s_l06Half.E) (by kernel_rfl) h
theorem s_l06Half.hok (hE : EOk Try.prog (s_l06Half.E)) : HintOk Try.prog s_l06Half.E (bodyOf Try.f115) (.n (.a) (.n (.a) (.n (.b (.s (s_l06Half.S1))) (.a)))) := HintOk.n1 (Q := (True) ∧ ((True) ∧ ((SumOk Try.prog s_l06Half.E (cB (cL (cR (cR (bodyOf Try.f115))))) (s_l06Half.S1)) ∧ (True)))) (by kernel_rfl) ⟨trivial, ⟨trivial, ⟨(s_l06Half.ok1 hE), trivial⟩⟩⟩
theorem s_l06Half.hE : EOk Try.prog (s_l06Half.E) := EOk.of ttOk (trivial)
theorem s_l06Half.fok : FOk Try.prog 115 s_l06Half.fi :=
  fokS (E := s_l06Half.E) (wy := ⟨[[none]], [[]], []⟩) (h := (fun gs => .n (.a) (.n (.a) (.n (.b (.s (s_l06Half.S1))) (.a))))) (G := fun t g => s_l06Half.F (fun y0 => g y0) t.1) (by kernel_rfl) s_l06Half.hE Try.func115 (by kernel_rfl) rfl (Nat.le_refl _) (fun t => HintOk.n1 (by kernel_rfl) (s_l06Half.hok s_l06Half.hE)) (fun t g => s_l06Half_nat g t.1) (fun t => by kernel_rfl)
/-! loop.example_g00220_spec.l01Consts -/
def s_l01Consts.F {R : Type} (kk : List Int → Option R) : Option R :=
  kk [(1116352408 : Int), (1899447441 : Int), (3049323471 : Int), (3921009573 : Int), (961987163 : Int), (1508970993 : Int), (2453635748 : Int), (2870763221 : Int), (3624381080 : Int), (310598401 : Int), (607225278 : Int), (1426881987 : Int), (1925078388 : Int), (2162078206 : Int), (2614888103 : Int), (3248222580 : Int), (3835390401 : Int), (4022224774 : Int), (264347078 : Int), (604807628 : Int), (770255983 : Int), (1249150122 : Int), (1555081692 : Int), (1996064986 : Int), (2554220882 : Int), (2821834349 : Int), (2952996808 : Int), (3210313671 : Int), (3336571891 : Int), (3584528711 : Int), (113926993 : Int), (338241895 : Int), (666307205 : Int), (773529912 : Int), (1294757372 : Int), (1396182291 : Int), (1695183700 : Int), (1986661051 : Int), (2177026350 : Int), (2456956037 : Int), (2730485921 : Int), (2820302411 : Int), (3259730800 : Int), (3345764771 : Int), (3516065817 : Int), (3600352804 : Int), (4094571909 : Int), (275423344 : Int), (430227734 : Int), (506948616 : Int), (659060556 : Int), (883997877 : Int), (958139571 : Int), (1322822218 : Int), (1537002063 : Int), (1747873779 : Int), (1955562222 : Int), (2024104815 : Int), (2227730452 : Int), (2361852424 : Int), (2428436474 : Int), (2756734187 : Int), (3204031479 : Int), (3329325298 : Int)]
theorem s_l01Consts.F_nat {R S : Type} (g : R → Option S) (kk : List Int → Option R) : s_l01Consts.F (fun y0 => (kk y0).bind g) = (s_l01Consts.F kk).bind g := by
  simp only [s_l01Consts.F, grd_bind, cnd_bind, bnd_bind, non_bind]
def s_l01Consts : Option (List Int) := s_l01Consts.F (fun y0 => some y0)
theorem s_l01Consts_nat {S : Type} (g : (List Int) → Option S) : s_l01Consts.F (fun y0 => g y0) = (s_l01Consts).bind g := s_l01Consts.F_nat g (fun y0 => some y0)
def s_l01Consts.out : (List Int) → CRes := fun a => ⟨encL SV.enc [.one (.own [] (.int .u32) true)] (a, ()), []⟩
def s_l01Consts.ps : List PS := []
def s_l01Consts.sA : List SA := []
def s_l01Consts.fi : FI := FIs s_l01Consts.sA (List Int) (fun t => s_l01Consts) s_l01Consts.out s_l01Consts.ps
def s_l01Consts.E : Env := ⟨tt, lkF [], 2, 0, [], []⟩
theorem s_l01Consts.hok (hE : EOk Try.prog (s_l01Consts.E)) : HintOk Try.prog s_l01Consts.E (bodyOf Try.f150) (.a) := HintOk.n1 (Q := True) (by kernel_rfl) trivial
theorem s_l01Consts.hE : EOk Try.prog (s_l01Consts.E) := EOk.of ttOk (trivial)
theorem s_l01Consts.fok : FOk Try.prog 150 s_l01Consts.fi :=
  fokS (E := s_l01Consts.E) (wy := ⟨[[some ((.int .u32), true)]], [], []⟩) (h := (fun gs => .a)) (G := fun t g => s_l01Consts.F (fun y0 => g y0)) (by kernel_rfl) s_l01Consts.hE Try.func150 (by kernel_rfl) rfl (Nat.le_refl _) (fun t => HintOk.n1 (by kernel_rfl) (s_l01Consts.hok s_l01Consts.hE)) (fun t g => s_l01Consts_nat g) (fun t => by kernel_rfl)
/-! loop.example_g00220_spec.l01Turn -/
def s_l01Turn.F {R : Type} (kk : Int → Option R) (x : Int) (n_ : Int) : Option R :=
  grd (gSh n_) <|
  grd (gSh (IntKind.wrap .u64 ((32 : Int) - n_))) <|
  kk (iOr .u32 (iShr .u32 x n_) (iShl .u32 x (IntKind.wrap .u64 ((32 : Int) - n_))))
theorem s_l01Turn.F_nat {R S : Type} (g : R → Option S) (kk : Int → Option R) (x : Int) (n_ : Int) : s_l01Turn.F (fun y0 => (kk y0).bind g) x n_ = (s_l01Turn.F kk x n_).bind g := by
  simp only [s_l01Turn.F, grd_bind, cnd_bind, bnd_bind, non_bind]
def s_l01Turn (x : Int) (n_ : Int) : Option Int := s_l01Turn.F (fun y0 => some y0) x n_
theorem s_l01Turn_nat {S : Type} (g : Int → Option S) (x : Int) (n_ : Int) : s_l01Turn.F (fun y0 => g y0) x n_ = (s_l01Turn x n_).bind g := s_l01Turn.F_nat g (fun y0 => some y0) x n_
def s_l01Turn.out : Int → CRes := fun a => ⟨encL SV.enc [.one (.int .u32)] (a, ()), [encL SC.enc [] (), encL SC.enc [] ()]⟩
def s_l01Turn.ps : List PS := [.val [none], .val [none]]
def s_l01Turn.sA : List SA := [.v (.one (.int .u32)), .v (.one (.int .u64))]
def s_l01Turn.fi : FI := FIs s_l01Turn.sA (Int) (fun t => s_l01Turn t.1 t.2.1) s_l01Turn.out s_l01Turn.ps
def s_l01Turn.E : Env := ⟨tt, lkF [], 13, 0, [], []⟩
theorem s_l01Turn.hok (hE : EOk Try.prog (s_l01Turn.E)) : HintOk Try.prog s_l01Turn.E (bodyOf Try.f169) (.a) := HintOk.n1 (Q := True) (by kernel_rfl) trivial
theorem s_l01Turn.hE : EOk Try.prog (s_l01Turn.E) := EOk.of ttOk (trivial)
theorem s_l01Turn.fok : FOk Try.prog 169 s_l01Turn.fi :=
  fokS (E := s_l01Turn.E) (wy := ⟨[[none]], [[], []], []⟩) (h := (fun gs => .a)) (G := fun t g => s_l01Turn.F (fun y0 => g y0) t.1 t.2.1) (by kernel_rfl) s_l01Turn.hE Try.func169 (by kernel_rfl) rfl (Nat.le_refl _) (fun t => HintOk.n1 (by kernel_rfl) (s_l01Turn.hok s_l01Turn.hE)) (fun t g => s_l01Turn_nat g t.1 t.2.1) (fun t => by kernel_rfl)
/-! loop.example_g00220_spec.l01Block -/
def s_l01Block.l1 {R : Type} (kke0 : List Int → List Int → List Int → Option R) : Nat → List Int → List Int → Int → List Int → List Int → Option R
  | 0, _, _, _, _, _ => none
  | n + 1, b, k_, i, h, w =>
    cond (decide (i < (16 : Int))) (
      grd (gIx (IntKind.wrap .i64 ((4 : Int) * i)) (List.length b)) <|
      grd (gSh (24 : Int)) <|
      grd (gIx (IntKind.wrap .i64 ((IntKind.wrap .i64 ((4 : Int) * i)) + (1 : Int))) (List.length b)) <|
      grd (gSh (16 : Int)) <|
      grd (gIx (IntKind.wrap .i64 ((IntKind.wrap .i64 ((4 : Int) * i)) + (2 : Int))) (List.length b)) <|
      grd (gSh (8 : Int)) <|
      grd (gIx (IntKind.wrap .i64 ((IntKind.wrap .i64 ((4 : Int) * i)) + (3 : Int))) (List.length b)) <|
      grd (gIx i (List.length w)) <|
      s_l01Block.l1 kke0 n b k_ (IntKind.wrap .i64 (i + (1 : Int))) h (setE (.int .u32 : Kd) w (Int.toNat i) (iOr .u32 (iOr .u32 (iOr .u32 (iShl .u32 (IntKind.wrap .u32 (rdE (.int .u8 : Kd) b (Int.toNat (IntKind.wrap .i64 ((4 : Int) * i))))) (24 : Int)) (iShl .u32 (IntKind.wrap .u32 (rdE (.int .u8 : Kd) b (Int.toNat (IntKind.wrap .i64 ((IntKind.wrap .i64 ((4 : Int) * i)) + (1 : Int)))))) (16 : Int))) (iShl .u32 (IntKind.wrap .u32 (rdE (.int .u8 : Kd) b (Int.toNat (IntKind.wrap .i64 ((IntKind.wrap .i64 ((4 : Int) * i)) + (2 : Int)))))) (8 : Int))) (IntKind.wrap .u32 (rdE (.int .u8 : Kd) b (Int.toNat (IntKind.wrap .i64 ((IntKind.wrap .i64 ((4 : Int) * i)) + (3 : Int))))))))) (kke0 k_ h w)
theorem s_l01Block.l1_nat {R S : Type} (g : R → Option S) (kke0 : List Int → List Int → List Int → Option R) : ∀ (n : Nat) (b : List Int) (k_ : List Int) (i : Int) (h : List Int) (w : List Int), s_l01Block.l1 (fun y0 y1 y2 => (kke0 y0 y1 y2).bind g) n b k_ i h w = (s_l01Block.l1 kke0 n b k_ i h w).bind g := by
  intro n
  induction n with
  | zero => intros; rfl
  | succ n ih => intros; simp only [s_l01Block.l1, grd_bind, cnd_bind, bnd_bind, non_bind, ih]
def s_l01Block.l2 {R : Type} (kke2 : List Int → List Int → List Int → Option R) : Nat → List Int → Int → List Int → List Int → Option R
  | 0, _, _, _, _ => none
  | n + 1, k_, i, h, w =>
    cond (decide (i < (64 : Int))) (
      grd (gIx (IntKind.wrap .i64 (i - (15 : Int))) (List.length w)) <|
      grd (gIx (IntKind.wrap .i64 (i - (2 : Int))) (List.length w)) <|
      grd (gIx (IntKind.wrap .i64 (i - (16 : Int))) (List.length w)) <|
      (s_l01Turn (rdE (.int .u32 : Kd) w (Int.toNat (IntKind.wrap .i64 (i - (15 : Int))))) (7 : Int)).bind fun r =>
      (s_l01Turn (rdE (.int .u32 : Kd) w (Int.toNat (IntKind.wrap .i64 (i - (15 : Int))))) (18 : Int)).bind fun r1 =>
      grd (gSh (3 : Int)) <|
      grd (gIx (IntKind.wrap .i64 (i - (7 : Int))) (List.length w)) <|
      (s_l01Turn (rdE (.int .u32 : Kd) w (Int.toNat (IntKind.wrap .i64 (i - (2 : Int))))) (17 : Int)).bind fun r2 =>
      (s_l01Turn (rdE (.int .u32 : Kd) w (Int.toNat (IntKind.wrap .i64 (i - (2 : Int))))) (19 : Int)).bind fun r3 =>
      grd (gSh (10 : Int)) <|
      grd (gIx i (List.length w)) <|
      s_l01Block.l2 kke2 n k_ (IntKind.wrap .i64 (i + (1 : Int))) h (setE (.int .u32 : Kd) w (Int.toNat i) (IntKind.wrap .u32 ((IntKind.wrap .u32 ((IntKind.wrap .u32 ((rdE (.int .u32 : Kd) w (Int.toNat (IntKind.wrap .i64 (i - (16 : Int))))) + (iXor .u32 (iXor .u32 r r1) (iShr .u32 (rdE (.int .u32 : Kd) w (Int.toNat (IntKind.wrap .i64 (i - (15 : Int))))) (3 : Int))))) + (rdE (.int .u32 : Kd) w (Int.toNat (IntKind.wrap .i64 (i - (7 : Int))))))) + (iXor .u32 (iXor .u32 r2 r3) (iShr .u32 (rdE (.int .u32 : Kd) w (Int.toNat (IntKind.wrap .i64 (i - (2 : Int))))) (10 : Int))))))) (kke2 k_ h w)
theorem s_l01Block.l2_nat {R S : Type} (g : R → Option S) (kke2 : List Int → List Int → List Int → Option R) : ∀ (n : Nat) (k_ : List Int) (i : Int) (h : List Int) (w : List Int), s_l01Block.l2 (fun y0 y1 y2 => (kke2 y0 y1 y2).bind g) n k_ i h w = (s_l01Block.l2 kke2 n k_ i h w).bind g := by
  intro n
  induction n with
  | zero => intros; rfl
  | succ n ih => intros; simp only [s_l01Block.l2, grd_bind, cnd_bind, bnd_bind, non_bind, ih]
def s_l01Block.l3 {R : Type} (kke4 : List Int → List Int → Option R) : Nat → List Int → Int → List Int → List Int → List Int → Option R
  | 0, _, _, _, _, _ => none
  | n + 1, k_, i, h, w, v =>
    cond (decide (i < (64 : Int))) (
      grd (gIx (4 : Int) (List.length v)) <|
      grd (gIx (0 : Int) (List.length v)) <|
      grd (gIx (7 : Int) (List.length v)) <|
      (s_l01Turn (rdE (.int .u32 : Kd) v (Int.toNat (4 : Int))) (6 : Int)).bind fun r =>
      (s_l01Turn (rdE (.int .u32 : Kd) v (Int.toNat (4 : Int))) (11 : Int)).bind fun r1 =>
      (s_l01Turn (rdE (.int .u32 : Kd) v (Int.toNat (4 : Int))) (25 : Int)).bind fun r2 =>
      grd (gIx (5 : Int) (List.length v)) <|
      grd (gIx (6 : Int) (List.length v)) <|
      grd (gIx i (List.length k_)) <|
      grd (gIx i (List.length w)) <|
      (s_l01Turn (rdE (.int .u32 : Kd) v (Int.toNat (0 : Int))) (2 : Int)).bind fun r3 =>
      (s_l01Turn (rdE (.int .u32 : Kd) v (Int.toNat (0 : Int))) (13 : Int)).bind fun r4 =>
      (s_l01Turn (rdE (.int .u32 : Kd) v (Int.toNat (0 : Int))) (22 : Int)).bind fun r5 =>
      grd (gIx (1 : Int) (List.length v)) <|
      grd (gIx (2 : Int) (List.length v)) <|
      grd (gIx (1 : Int) (List.length v)) <|
      grd (gIx (2 : Int) (List.length v)) <|
      grd (gIx (0 : Int) (List.length v)) <|
      grd (gIx (1 : Int) (List.length v)) <|
      grd (gIx (2 : Int) (List.length v)) <|
      grd (gIx (3 : Int) (List.length v)) <|
      grd (gIx (4 : Int) (List.length v)) <|
      grd (gIx (5 : Int) (List.length v)) <|
      grd (gIx (6 : Int) (List.length v)) <|
      s_l01Block.l3 kke4 n k_ (IntKind.wrap .i64 (i + (1 : Int))) h w [IntKind.wrap .u32 ((IntKind.wrap .u32 ((IntKind.wrap .u32 ((IntKind.wrap .u32 ((IntKind.wrap .u32 ((rdE (.int .u32 : Kd) v (Int.toNat (7 : Int))) + (iXor .u32 (iXor .u32 r r1) r2))) + (iXor .u32 (iAnd .u32 (rdE (.int .u32 : Kd) v (Int.toNat (4 : Int))) (rdE (.int .u32 : Kd) v (Int.toNat (5 : Int)))) (iAnd .u32 (iXor .u32 (IntKind.max .u32) (rdE (.int .u32 : Kd) v (Int.toNat (4 : Int)))) (rdE (.int .u32 : Kd) v (Int.toNat (6 : Int))))))) + (rdE (.int .u32 : Kd) k_ (Int.toNat i)))) + (rdE (.int .u32 : Kd) w (Int.toNat i)))) + (IntKind.wrap .u32 ((iXor .u32 (iXor .u32 r3 r4) r5) + (iXor .u32 (iXor .u32 (iAnd .u32 (rdE (.int .u32 : Kd) v (Int.toNat (0 : Int))) (rdE (.int .u32 : Kd) v (Int.toNat (1 : Int)))) (iAnd .u32 (rdE (.int .u32 : Kd) v (Int.toNat (0 : Int))) (rdE (.int .u32 : Kd) v (Int.toNat (2 : Int))))) (iAnd .u32 (rdE (.int .u32 : Kd) v (Int.toNat (1 : Int))) (rdE (.int .u32 : Kd) v (Int.toNat (2 : Int)))))))), rdE (.int .u32 : Kd) v (Int.toNat (0 : Int)), rdE (.int .u32 : Kd) v (Int.toNat (1 : Int)), rdE (.int .u32 : Kd) v (Int.toNat (2 : Int)), IntKind.wrap .u32 ((rdE (.int .u32 : Kd) v (Int.toNat (3 : Int))) + (IntKind.wrap .u32 ((IntKind.wrap .u32 ((IntKind.wrap .u32 ((IntKind.wrap .u32 ((rdE (.int .u32 : Kd) v (Int.toNat (7 : Int))) + (iXor .u32 (iXor .u32 r r1) r2))) + (iXor .u32 (iAnd .u32 (rdE (.int .u32 : Kd) v (Int.toNat (4 : Int))) (rdE (.int .u32 : Kd) v (Int.toNat (5 : Int)))) (iAnd .u32 (iXor .u32 (IntKind.max .u32) (rdE (.int .u32 : Kd) v (Int.toNat (4 : Int)))) (rdE (.int .u32 : Kd) v (Int.toNat (6 : Int))))))) + (rdE (.int .u32 : Kd) k_ (Int.toNat i)))) + (rdE (.int .u32 : Kd) w (Int.toNat i))))), rdE (.int .u32 : Kd) v (Int.toNat (4 : Int)), rdE (.int .u32 : Kd) v (Int.toNat (5 : Int)), rdE (.int .u32 : Kd) v (Int.toNat (6 : Int))]) (kke4 h v)
theorem s_l01Block.l3_nat {R S : Type} (g : R → Option S) (kke4 : List Int → List Int → Option R) : ∀ (n : Nat) (k_ : List Int) (i : Int) (h : List Int) (w : List Int) (v : List Int), s_l01Block.l3 (fun y0 y1 => (kke4 y0 y1).bind g) n k_ i h w v = (s_l01Block.l3 kke4 n k_ i h w v).bind g := by
  intro n
  induction n with
  | zero => intros; rfl
  | succ n ih => intros; simp only [s_l01Block.l3, grd_bind, cnd_bind, bnd_bind, non_bind, ih]
def s_l01Block.l4 {R : Type} (kke6 : List Int → Option R) : Nat → Int → List Int → List Int → Option R
  | 0, _, _, _ => none
  | n + 1, i, h, v =>
    cond (decide (i < (8 : Int))) (
      grd (gIx i (List.length h)) <|
      grd (gIx i (List.length v)) <|
      grd (gIx i (List.length h)) <|
      s_l01Block.l4 kke6 n (IntKind.wrap .i64 (i + (1 : Int))) (setE (.int .u32 : Kd) h (Int.toNat i) (IntKind.wrap .u32 ((rdE (.int .u32 : Kd) h (Int.toNat i)) + (rdE (.int .u32 : Kd) v (Int.toNat i))))) v) (kke6 h)
theorem s_l01Block.l4_nat {R S : Type} (g : R → Option S) (kke6 : List Int → Option R) : ∀ (n : Nat) (i : Int) (h : List Int) (v : List Int), s_l01Block.l4 (fun y0 => (kke6 y0).bind g) n i h v = (s_l01Block.l4 kke6 n i h v).bind g := by
  intro n
  induction n with
  | zero => intros; rfl
  | succ n ih => intros; simp only [s_l01Block.l4, grd_bind, cnd_bind, bnd_bind, non_bind, ih]
def s_l01Block.F {R : Type} (kk : List Int → Option R) (h : List Int) (b : List Int) (k_ : List Int) : Option R :=
  grd (gMk (64 : Int) (64 : Int) 4) <|
  s_l01Block.l1 (fun k_1 h1 w =>
    s_l01Block.l2 (fun k_2 h2 w1 =>
      grd (gRm (((List.length ([] : List Int)) + (List.length h2)) * 4)) <|
      s_l01Block.l3 (fun h3 v => s_l01Block.l4 (fun h4 => kk h4) fuel (0 : Int) h3 v) fuel k_2 (0 : Int) h2 w1 (([] : List Int) ++ h2)) fuel k_1 (16 : Int) h1 w) fuel b k_ (0 : Int) h (List.replicate (Int.toNat (64 : Int)) (0 : Int))
theorem s_l01Block.F_nat {R S : Type} (g : R → Option S) (kk : List Int → Option R) (h : List Int) (b : List Int) (k_ : List Int) : s_l01Block.F (fun y0 => (kk y0).bind g) h b k_ = (s_l01Block.F kk h b k_).bind g := by
  simp only [s_l01Block.F, grd_bind, cnd_bind, bnd_bind, non_bind, ← s_l01Block.l1_nat, ← s_l01Block.l2_nat, ← s_l01Block.l3_nat, ← s_l01Block.l4_nat]
theorem s_l01Block_ex : ∃ f : List Int → List Int → List Int → Option (List Int), f = fun (h : List Int) (b : List Int) (k_ : List Int) => s_l01Block.F (fun y0 => some y0) h b k_ := ⟨_, rfl⟩
/-- Chosen, so that the kernel does not unfold it. -/
noncomputable def s_l01Block : List Int → List Int → List Int → Option (List Int) := Classical.choose s_l01Block_ex
theorem s_l01Block_eq (h : List Int) (b : List Int) (k_ : List Int) : s_l01Block h b k_ = s_l01Block.F (fun y0 => some y0) h b k_ := (congrFun (congrFun (congrFun (Classical.choose_spec s_l01Block_ex) h) b) k_)
theorem s_l01Block_nat {S : Type} (g : (List Int) → Option S) (h : List Int) (b : List Int) (k_ : List Int) : s_l01Block.F (fun y0 => g y0) h b k_ = (s_l01Block h b k_).bind g := by
  rw [s_l01Block_eq]
  exact s_l01Block.F_nat g (fun y0 => some y0) h b k_
def s_l01Block.out : (List Int) → CRes := fun a => ⟨encL SV.enc [] (), [encL SC.enc [.own [] (.int .u32) true] (a, ()), encL SC.enc [] (), encL SC.enc [] ()]⟩
def s_l01Block.ps : List PS := [.val [some ((.int .u32), true)], .val [some ((.int .u8), false)], .val [some ((.int .u32), false)]]
def s_l01Block.sA : List SA := [.v (.one (.own [] (.int .u32) true)), .v (.one (.slv [] (.int .u8))), .v (.one (.slv [] (.int .u32)))]
def s_l01Block.fi : FI := FIs s_l01Block.sA (List Int) (fun t => s_l01Block t.1 t.2.1 t.2.2.1) s_l01Block.out s_l01Block.ps
def s_l01Block.E : Env := ⟨tt, lkF [(169, s_l01Turn.fi)], 222, 1, [], []⟩
def s_l01Block.sh1 : SK := ⟨[.v (.one (.slo 0)), .v (.one (.slv [2] (.int .u8))), .v (.one (.slv [3] (.int .u32))), .v (.one (.slo 1)), .v (.one (.int .i64))], [.arr (.int .u32) [] true, .arr (.int .u32) [] true]⟩
def s_l01Block.sh1e0 : SK := ⟨[.v (.one (.slo 0)), .v (.one (.slv [3] (.int .u32))), .v (.one (.slo 1))], [.arr (.int .u32) [] true, .arr (.int .u32) [] true]⟩
def s_l01Block.ko1 : Ex → List CastAt × List Nat
  | .nrm => ([], [])
  | .ret => ([], [])
  | .ext i => cond (Nat.beq i 0) ([], [0, 2, 6]) ([], [])
def s_l01Block.G1 (n : Nat) (R : Type) (t : s_l01Block.sh1.T) (K : Ex → Kp → Option R) : Option R := s_l01Block.l1 (fun y0 y1 y2 => K (.ext 0) (SK.enc s_l01Block.sh1e0 (((), y0, (), ()), (y1, y2, ())))) n t.1.2.1 t.1.2.2.1 t.1.2.2.2.2.1 t.2.1 t.2.2.1
def s_l01Block.S1 : Sum := ⟨([], [0, 1, 2, 6, 7]), sumF s_l01Block.sh1 (s_l01Block.G1 fuel), s_l01Block.ko1⟩
theorem s_l01Block.ok1 (hE : EOk Try.prog (s_l01Block.E)) : SumOk Try.prog s_l01Block.E (cB (cR (cL (cR (bodyOf Try.f151))))) (s_l01Block.S1) := by
  have hh : HintOk Try.prog s_l01Block.E (cB (cB (cR (cL (cR (bodyOf Try.f151)))))) (.a) := HintOk.n1 (Q := True) (by kernel_rfl) trivial
  have h := loopS (kin := ([], [0, 1, 2, 6, 7])) (kout := s_l01Block.ko1) (sh := s_l01Block.sh1) (F := s_l01Block.G1) (ops_ok (hE.gv _)) (by kernel_rfl) hh (fun _ _ _ => rfl) (fun n R t K => by kernel_rfl) fuel
  exact HintOk.n1 (c := (cB (cR (cL (cR (bodyOf Try.f151)))))) (h := .s (s_l01Block.S1)) (P := Try.prog) (E := s_l01Block.E) (by kernel_rfl) h
def s_l01Block.sh2 : SK := ⟨[.v (.one (.slo 0)), .v (.one (.slv [3] (.int .u32))), .v (.one (.slo 1)), .v (.one (.int .i64))], [.arr (.int .u32) [] true, .arr (.int .u32) [] true]⟩
def s_l01Block.sh2e2 : SK := ⟨[.v (.one (.slo 0)), .v (.one (.slv [3] (.int .u32))), .v (.one (.slo 1))], [.arr (.int .u32) [] true, .arr (.int .u32) [] true]⟩
def s_l01Block.ko2 : Ex → List CastAt × List Nat
  | .nrm => ([], [])
  | .ret => ([], [])
  | .ext i => cond (Nat.beq i 2) ([], [0, 2, 6]) ([], [])
def s_l01Block.G2 (n : Nat) (R : Type) (t : s_l01Block.sh2.T) (K : Ex → Kp → Option R) : Option R := s_l01Block.l2 (fun y0 y1 y2 => K (.ext 2) (SK.enc s_l01Block.sh2e2 (((), y0, (), ()), (y1, y2, ())))) n t.1.2.1 t.1.2.2.2.1 t.2.1 t.2.2.1
def s_l01Block.S2 : Sum := ⟨([], [0, 2, 6, 8]), sumF s_l01Block.sh2 (s_l01Block.G2 fuel), s_l01Block.ko2⟩
theorem s_l01Block.ok2 (hE : EOk Try.prog (s_l01Block.E)) : SumOk Try.prog s_l01Block.E (cB (cR (cL (cR (cR (bodyOf Try.f151)))))) (s_l01Block.S2) := by
  have hh : HintOk Try.prog s_l01Block.E (cB (cB (cR (cL (cR (cR (bodyOf Try.f151))))))) (.a) := HintOk.n1 (Q := True) (by kernel_rfl) trivial
  have h := loopS (kin := ([], [0, 2, 6, 8])) (kout := s_l01Block.ko2) (sh := s_l01Block.sh2) (F := s_l01Block.G2) (ops_ok (hE.gv _)) (by kernel_rfl) hh (fun _ _ _ => rfl) (fun n R t K => by kernel_rfl) fuel
  exact HintOk.n1 (c := (cB (cR (cL (cR (cR (bodyOf Try.f151))))))) (h := .s (s_l01Block.S2)) (P := Try.prog) (E := s_l01Block.E) (by kernel_rfl) h
def s_l01Block.sh3 : SK := ⟨[.v (.one (.slo 0)), .v (.one (.slv [3] (.int .u32))), .v (.one (.slo 1)), .v (.one (.slo 2)), .v (.one (.int .i64))], [.arr (.int .u32) [] true, .arr (.int .u32) [] true, .arr (.int .u32) [] true]⟩
def s_l01Block.sh3e4 : SK := ⟨[.v (.one (.slo 0)), .v (.one (.slo 1))], [.arr (.int .u32) [] true, .arr (.int .u32) [] true]⟩
def s_l01Block.ko3 : Ex → List CastAt × List Nat
  | .nrm => ([], [])
  | .ret => ([], [])
  | .ext i => cond (Nat.beq i 4) ([], [0, 11]) ([], [])
def s_l01Block.G3 (n : Nat) (R : Type) (t : s_l01Block.sh3.T) (K : Ex → Kp → Option R) : Option R := s_l01Block.l3 (fun y0 y1 => K (.ext 4) (SK.enc s_l01Block.sh3e4 (((), (), ()), (y0, y1, ())))) n t.1.2.1 t.1.2.2.2.2.1 t.2.1 t.2.2.1 t.2.2.2.1
def s_l01Block.S3 : Sum := ⟨([], [0, 2, 6, 11, 12]), sumF s_l01Block.sh3 (s_l01Block.G3 fuel), s_l01Block.ko3⟩
theorem s_l01Block.ok3 (hE : EOk Try.prog (s_l01Block.E)) : SumOk Try.prog s_l01Block.E (cB (cR (cL (cR (cR (cR (cR (bodyOf Try.f151)))))))) (s_l01Block.S3) := by
  have hh : HintOk Try.prog s_l01Block.E (cB (cB (cR (cL (cR (cR (cR (cR (bodyOf Try.f151))))))))) (.a) := HintOk.n1 (Q := True) (by kernel_rfl) trivial
  have h := loopS (kin := ([], [0, 2, 6, 11, 12])) (kout := s_l01Block.ko3) (sh := s_l01Block.sh3) (F := s_l01Block.G3) (ops_ok (hE.gv _)) (by kernel_rfl) hh (fun _ _ _ => rfl) (fun n R t K => by kernel_rfl) fuel
  exact HintOk.n1 (c := (cB (cR (cL (cR (cR (cR (cR (bodyOf Try.f151))))))))) (h := .s (s_l01Block.S3)) (P := Try.prog) (E := s_l01Block.E) (by kernel_rfl) h
def s_l01Block.sh4 : SK := ⟨[.v (.one (.slo 0)), .v (.one (.slo 1)), .v (.one (.int .i64))], [.arr (.int .u32) [] true, .arr (.int .u32) [] true]⟩
def s_l01Block.sh4e6 : SK := ⟨[], [.arr (.int .u32) [] true]⟩
def s_l01Block.ko4 : Ex → List CastAt × List Nat
  | .nrm => ([], [])
  | .ret => ([], [])
  | .ext i => cond (Nat.beq i 6) ([], []) ([], [])
def s_l01Block.G4 (n : Nat) (R : Type) (t : s_l01Block.sh4.T) (K : Ex → Kp → Option R) : Option R := s_l01Block.l4 (fun y0 => K (.ext 6) (SK.enc s_l01Block.sh4e6 ((), (y0, ())))) n t.1.2.2.1 t.2.1 t.2.2.1
def s_l01Block.S4 : Sum := ⟨([], [0, 11, 17]), sumF s_l01Block.sh4 (s_l01Block.G4 fuel), s_l01Block.ko4⟩
theorem s_l01Block.ok4 (hE : EOk Try.prog (s_l01Block.E)) : SumOk Try.prog s_l01Block.E (cB (cR (cR (cR (cR (cR (cR (bodyOf Try.f151)))))))) (s_l01Block.S4) := by
  have hh : HintOk Try.prog s_l01Block.E (cB (cB (cR (cR (cR (cR (cR (cR (bodyOf Try.f151))))))))) (.a) := HintOk.n1 (Q := True) (by kernel_rfl) trivial
  have h := loopS (kin := ([], [0, 11, 17])) (kout := s_l01Block.ko4) (sh := s_l01Block.sh4) (F := s_l01Block.G4) (ops_ok (hE.gv _)) (by kernel_rfl) hh (fun _ _ _ => rfl) (fun n R t K => by kernel_rfl) fuel
  exact HintOk.n1 (c := (cB (cR (cR (cR (cR (cR (cR (bodyOf Try.f151))))))))) (h := .s (s_l01Block.S4)) (P := Try.prog) (E := s_l01Block.E) (by kernel_rfl) h
theorem s_l01Block.hok (hE : EOk Try.prog (s_l01Block.E)) : HintOk Try.prog s_l01Block.E (bodyOf Try.f151) (.n (.a) (.n (.n (.a) (.b (.s (s_l01Block.S1)))) (.n (.n (.a) (.b (.s (s_l01Block.S2)))) (.n (.a) (.n (.n (.a) (.b (.s (s_l01Block.S3)))) (.n (.a) (.b (.s (s_l01Block.S4))))))))) := HintOk.n1 (Q := (True) ∧ (((True) ∧ (SumOk Try.prog s_l01Block.E (cB (cR (cL (cR (bodyOf Try.f151))))) (s_l01Block.S1))) ∧ (((True) ∧ (SumOk Try.prog s_l01Block.E (cB (cR (cL (cR (cR (bodyOf Try.f151)))))) (s_l01Block.S2))) ∧ ((True) ∧ (((True) ∧ (SumOk Try.prog s_l01Block.E (cB (cR (cL (cR (cR (cR (cR (bodyOf Try.f151)))))))) (s_l01Block.S3))) ∧ ((True) ∧ (SumOk Try.prog s_l01Block.E (cB (cR (cR (cR (cR (cR (cR (bodyOf Try.f151)))))))) (s_l01Block.S4)))))))) (by kernel_rfl) ⟨trivial, ⟨⟨trivial, (s_l01Block.ok1 hE)⟩, ⟨⟨trivial, (s_l01Block.ok2 hE)⟩, ⟨trivial, ⟨⟨trivial, (s_l01Block.ok3 hE)⟩, ⟨trivial, (s_l01Block.ok4 hE)⟩⟩⟩⟩⟩⟩
theorem s_l01Block.hE : EOk Try.prog (s_l01Block.E) := EOk.of ttOk (⟨s_l01Turn.fok, trivial⟩)
theorem s_l01Block.fok : FOk Try.prog 151 s_l01Block.fi :=
  fokS (E := s_l01Block.E) (wy := ⟨[], [[], [], []], []⟩) (h := (fun gs => .n (.a) (.n (.n (.a) (.b (.s (s_l01Block.S1)))) (.n (.n (.a) (.b (.s (s_l01Block.S2)))) (.n (.a) (.n (.n (.a) (.b (.s (s_l01Block.S3)))) (.n (.a) (.b (.s (s_l01Block.S4)))))))))) (G := fun t g => s_l01Block.F (fun y0 => g y0) t.1 t.2.1 t.2.2.1) (by kernel_rfl) s_l01Block.hE Try.func151 (by kernel_rfl) rfl (Nat.le_refl _) (fun t => HintOk.n1 (by kernel_rfl) (s_l01Block.hok s_l01Block.hE)) (fun t g => s_l01Block_nat g t.1 t.2.1 t.2.2.1) (fun t => by kernel_rfl)
/-! loop.example_g00220_spec.l01Hash -/
def s_l01Hash.l1 {R : Type} (kke0 : List Int → List Int → List Int → Option R) : Nat → List Int → List Int → List Int → Option R
  | 0, _, _, _ => none
  | n + 1, b, h, all =>
    grd (gNz (64 : Int)) <|
    cond ((Int.tmod (List.length all : Int) (64 : Int)) != (56 : Int)) (
      grd (gRm (((List.length all) + (List.length [(0 : Int)])) * 1)) <|
      s_l01Hash.l1 kke0 n b h (all ++ [(0 : Int)])) (kke0 b h all)
theorem s_l01Hash.l1_nat {R S : Type} (g : R → Option S) (kke0 : List Int → List Int → List Int → Option R) : ∀ (n : Nat) (b : List Int) (h : List Int) (all : List Int), s_l01Hash.l1 (fun y0 y1 y2 => (kke0 y0 y1 y2).bind g) n b h all = (s_l01Hash.l1 kke0 n b h all).bind g := by
  intro n
  induction n with
  | zero => intros; rfl
  | succ n ih => intros; simp only [s_l01Hash.l1, grd_bind, cnd_bind, bnd_bind, non_bind, ih]
def s_l01Hash.l2 {R : Type} (kke2 : List Int → List Int → Option R) : Nat → List Int → Int → List Int → List Int → Option R
  | 0, _, _, _, _ => none
  | n + 1, b, i, h, all =>
    cond (decide (i ≥ (0 : Int))) (
      grd (gSh (IntKind.wrap .u64 (IntKind.wrap .i64 ((8 : Int) * i)))) <|
      grd (gRm (((List.length all) + (List.length [IntKind.wrap .u8 (iShr .i64 (IntKind.wrap .i64 ((8 : Int) * (List.length b : Int))) (IntKind.wrap .u64 (IntKind.wrap .i64 ((8 : Int) * i))))])) * 1)) <|
      s_l01Hash.l2 kke2 n b (IntKind.wrap .i64 (i - (1 : Int))) h (all ++ [IntKind.wrap .u8 (iShr .i64 (IntKind.wrap .i64 ((8 : Int) * (List.length b : Int))) (IntKind.wrap .u64 (IntKind.wrap .i64 ((8 : Int) * i))))])) (kke2 h all)
theorem s_l01Hash.l2_nat {R S : Type} (g : R → Option S) (kke2 : List Int → List Int → Option R) : ∀ (n : Nat) (b : List Int) (i : Int) (h : List Int) (all : List Int), s_l01Hash.l2 (fun y0 y1 => (kke2 y0 y1).bind g) n b i h all = (s_l01Hash.l2 kke2 n b i h all).bind g := by
  intro n
  induction n with
  | zero => intros; rfl
  | succ n ih => intros; simp only [s_l01Hash.l2, grd_bind, cnd_bind, bnd_bind, non_bind, ih]
def s_l01Hash.l3 {R : Type} (kke4 : List Int → Option R) : Nat → List Int → Int → List Int → List Int → Option R
  | 0, _, _, _, _ => none
  | n + 1, all, i, h, k_ =>
    cond (decide (i < (List.length all : Int))) (
      grd (gSl i (IntKind.wrap .i64 (i + (64 : Int))) (List.length all)) <|
      (s_l01Block h (sub all i (IntKind.wrap .i64 (i + (64 : Int)))) k_).bind fun r =>
      s_l01Hash.l3 kke4 n all (IntKind.wrap .i64 (i + (64 : Int))) r k_) (kke4 h)
theorem s_l01Hash.l3_nat {R S : Type} (g : R → Option S) (kke4 : List Int → Option R) : ∀ (n : Nat) (all : List Int) (i : Int) (h : List Int) (k_ : List Int), s_l01Hash.l3 (fun y0 => (kke4 y0).bind g) n all i h k_ = (s_l01Hash.l3 kke4 n all i h k_).bind g := by
  intro n
  induction n with
  | zero => intros; rfl
  | succ n ih => intros; simp only [s_l01Hash.l3, grd_bind, cnd_bind, bnd_bind, non_bind, ih]
def s_l01Hash.l4 {R : Type} (kke6 : List Int → Option R) : Nat → Int → List Int → List Int → Option R
  | 0, _, _, _ => none
  | n + 1, i, h, out =>
    cond (decide (i < (8 : Int))) (
      grd (gIx i (List.length h)) <|
      grd (gSh (24 : Int)) <|
      grd (gIx i (List.length h)) <|
      grd (gSh (16 : Int)) <|
      grd (gIx i (List.length h)) <|
      grd (gSh (8 : Int)) <|
      grd (gIx i (List.length h)) <|
      grd (gRm (((List.length out) + (List.length [IntKind.wrap .u8 (iShr .u32 (rdE (.int .u32 : Kd) h (Int.toNat i)) (24 : Int)), IntKind.wrap .u8 (iShr .u32 (rdE (.int .u32 : Kd) h (Int.toNat i)) (16 : Int)), IntKind.wrap .u8 (iShr .u32 (rdE (.int .u32 : Kd) h (Int.toNat i)) (8 : Int)), IntKind.wrap .u8 (rdE (.int .u32 : Kd) h (Int.toNat i))])) * 1)) <|
      s_l01Hash.l4 kke6 n (IntKind.wrap .i64 (i + (1 : Int))) h (out ++ [IntKind.wrap .u8 (iShr .u32 (rdE (.int .u32 : Kd) h (Int.toNat i)) (24 : Int)), IntKind.wrap .u8 (iShr .u32 (rdE (.int .u32 : Kd) h (Int.toNat i)) (16 : Int)), IntKind.wrap .u8 (iShr .u32 (rdE (.int .u32 : Kd) h (Int.toNat i)) (8 : Int)), IntKind.wrap .u8 (rdE (.int .u32 : Kd) h (Int.toNat i))])) (kke6 out)
theorem s_l01Hash.l4_nat {R S : Type} (g : R → Option S) (kke6 : List Int → Option R) : ∀ (n : Nat) (i : Int) (h : List Int) (out : List Int), s_l01Hash.l4 (fun y0 => (kke6 y0).bind g) n i h out = (s_l01Hash.l4 kke6 n i h out).bind g := by
  intro n
  induction n with
  | zero => intros; rfl
  | succ n ih => intros; simp only [s_l01Hash.l4, grd_bind, cnd_bind, bnd_bind, non_bind, ih]
def s_l01Hash.F {R : Type} (kk : ByteArray → Option R) (b : List Int) : Option R :=
  grd (gRm (((List.length ([] : List Int)) + (List.length b)) * 1)) <|
  grd (gRm (((List.length (([] : List Int) ++ b)) + (List.length [(128 : Int)])) * 1)) <|
  s_l01Hash.l1 (fun b1 h all =>
    s_l01Hash.l2 (fun h1 all1 =>
      (s_l01Consts).bind fun r =>
      s_l01Hash.l3 (fun h2 => s_l01Hash.l4 (fun out => kk (strL out)) fuel (0 : Int) h2 ([] : List Int)) fuel all1 (0 : Int) h1 r) fuel b1 (7 : Int) h all) fuel b [(1779033703 : Int), (3144134277 : Int), (1013904242 : Int), (2773480762 : Int), (1359893119 : Int), (2600822924 : Int), (528734635 : Int), (1541459225 : Int)] ((([] : List Int) ++ b) ++ [(128 : Int)])
theorem s_l01Hash.F_nat {R S : Type} (g : R → Option S) (kk : ByteArray → Option R) (b : List Int) : s_l01Hash.F (fun y0 => (kk y0).bind g) b = (s_l01Hash.F kk b).bind g := by
  simp only [s_l01Hash.F, grd_bind, cnd_bind, bnd_bind, non_bind, ← s_l01Hash.l1_nat, ← s_l01Hash.l2_nat, ← s_l01Hash.l3_nat, ← s_l01Hash.l4_nat]
theorem s_l01Hash_ex : ∃ f : List Int → Option ByteArray, f = fun (b : List Int) => s_l01Hash.F (fun y0 => some y0) b := ⟨_, rfl⟩
/-- Chosen, so that the kernel does not unfold it. -/
noncomputable def s_l01Hash : List Int → Option ByteArray := Classical.choose s_l01Hash_ex
theorem s_l01Hash_eq (b : List Int) : s_l01Hash b = s_l01Hash.F (fun y0 => some y0) b := (congrFun (Classical.choose_spec s_l01Hash_ex) b)
theorem s_l01Hash_nat {S : Type} (g : ByteArray → Option S) (b : List Int) : s_l01Hash.F (fun y0 => g y0) b = (s_l01Hash b).bind g := by
  rw [s_l01Hash_eq]
  exact s_l01Hash.F_nat g (fun y0 => some y0) b
def s_l01Hash.out : ByteArray → CRes := fun a => ⟨encL SV.enc [.one (.str)] (a, ()), [encL SC.enc [] ()]⟩
def s_l01Hash.ps : List PS := [.val [some ((.int .u8), false)]]
def s_l01Hash.sA : List SA := [.v (.one (.slv [] (.int .u8)))]
def s_l01Hash.fi : FI := FIs s_l01Hash.sA (ByteArray) (fun t => s_l01Hash t.1) s_l01Hash.out s_l01Hash.ps
def s_l01Hash.E : Env := ⟨tt, lkF [(150, s_l01Consts.fi), (151, s_l01Block.fi)], 86, 0, [], []⟩
def s_l01Hash.sh1 : SK := ⟨[.v (.one (.slv [1] (.int .u8))), .v (.one (.slo 0)), .v (.one (.slo 1))], [.arr (.int .u32) [] true, .arr (.int .u8) [] true]⟩
def s_l01Hash.sh1e0 : SK := ⟨[.v (.one (.slv [1] (.int .u8))), .v (.one (.slo 0)), .v (.one (.slo 1))], [.arr (.int .u32) [] true, .arr (.int .u8) [] true]⟩
def s_l01Hash.ko1 : Ex → List CastAt × List Nat
  | .nrm => ([], [])
  | .ret => ([], [])
  | .ext i => cond (Nat.beq i 0) ([], [0, 3, 4]) ([], [])
def s_l01Hash.G1 (n : Nat) (R : Type) (t : s_l01Hash.sh1.T) (K : Ex → Kp → Option R) : Option R := s_l01Hash.l1 (fun y0 y1 y2 => K (.ext 0) (SK.enc s_l01Hash.sh1e0 ((y0, (), (), ()), (y1, y2, ())))) n t.1.1 t.2.1 t.2.2.1
def s_l01Hash.S1 : Sum := ⟨([], [0, 3, 4]), sumF s_l01Hash.sh1 (s_l01Hash.G1 fuel), s_l01Hash.ko1⟩
theorem s_l01Hash.ok1 (hE : EOk Try.prog (s_l01Hash.E)) : SumOk Try.prog s_l01Hash.E (cB (cL (cR (cR (cR (bodyOf Try.f122)))))) (s_l01Hash.S1) := by
  have hh : HintOk Try.prog s_l01Hash.E (cB (cB (cL (cR (cR (cR (bodyOf Try.f122))))))) (.a) := HintOk.n1 (Q := True) (by kernel_rfl) trivial
  have h := loopS (kin := ([], [0, 3, 4])) (kout := s_l01Hash.ko1) (sh := s_l01Hash.sh1) (F := s_l01Hash.G1) (ops_ok (hE.gv _)) (by kernel_rfl) hh (fun _ _ _ => rfl) (fun n R t K => by kernel_rfl) fuel
  exact HintOk.n1 (c := (cB (cL (cR (cR (cR (bodyOf Try.f122))))))) (h := .s (s_l01Hash.S1)) (P := Try.prog) (E := s_l01Hash.E) (by kernel_rfl) h
def s_l01Hash.sh2 : SK := ⟨[.v (.one (.slv [1] (.int .u8))), .v (.one (.slo 0)), .v (.one (.slo 1)), .v (.one (.int .i64))], [.arr (.int .u32) [] true, .arr (.int .u8) [] true]⟩
def s_l01Hash.sh2e2 : SK := ⟨[.v (.one (.slo 0)), .v (.one (.slo 1))], [.arr (.int .u32) [] true, .arr (.int .u8) [] true]⟩
def s_l01Hash.ko2 : Ex → List CastAt × List Nat
  | .nrm => ([], [])
  | .ret => ([], [])
  | .ext i => cond (Nat.beq i 2) ([], [3, 4]) ([], [])
def s_l01Hash.G2 (n : Nat) (R : Type) (t : s_l01Hash.sh2.T) (K : Ex → Kp → Option R) : Option R := s_l01Hash.l2 (fun y0 y1 => K (.ext 2) (SK.enc s_l01Hash.sh2e2 (((), (), ()), (y0, y1, ())))) n t.1.1 t.1.2.2.2.1 t.2.1 t.2.2.1
def s_l01Hash.S2 : Sum := ⟨([], [0, 3, 4, 5]), sumF s_l01Hash.sh2 (s_l01Hash.G2 fuel), s_l01Hash.ko2⟩
theorem s_l01Hash.ok2 (hE : EOk Try.prog (s_l01Hash.E)) : SumOk Try.prog s_l01Hash.E (cB (cR (cL (cR (cR (cR (cR (bodyOf Try.f122)))))))) (s_l01Hash.S2) := by
  have hh : HintOk Try.prog s_l01Hash.E (cB (cB (cR (cL (cR (cR (cR (cR (bodyOf Try.f122))))))))) (.a) := HintOk.n1 (Q := True) (by kernel_rfl) trivial
  have h := loopS (kin := ([], [0, 3, 4, 5])) (kout := s_l01Hash.ko2) (sh := s_l01Hash.sh2) (F := s_l01Hash.G2) (ops_ok (hE.gv _)) (by kernel_rfl) hh (fun _ _ _ => rfl) (fun n R t K => by kernel_rfl) fuel
  exact HintOk.n1 (c := (cB (cR (cL (cR (cR (cR (cR (bodyOf Try.f122))))))))) (h := .s (s_l01Hash.S2)) (P := Try.prog) (E := s_l01Hash.E) (by kernel_rfl) h
def s_l01Hash.sh3 : SK := ⟨[.v (.one (.slo 0)), .v (.one (.slv [0] (.int .u8))), .v (.one (.slo 1)), .v (.one (.int .i64))], [.arr (.int .u32) [] true, .arr (.int .u32) [] true]⟩
def s_l01Hash.sh3e4 : SK := ⟨[.v (.one (.slo 0))], [.arr (.int .u32) [] true]⟩
def s_l01Hash.ko3 : Ex → List CastAt × List Nat
  | .nrm => ([], [])
  | .ret => ([], [])
  | .ext i => cond (Nat.beq i 4) ([], [3]) ([], [])
def s_l01Hash.G3 (n : Nat) (R : Type) (t : s_l01Hash.sh3.T) (K : Ex → Kp → Option R) : Option R := s_l01Hash.l3 (fun y0 => K (.ext 4) (SK.enc s_l01Hash.sh3e4 (((), ()), (y0, ())))) n t.1.2.1 t.1.2.2.2.1 t.2.1 t.2.2.1
def s_l01Hash.S3 : Sum := ⟨([⟨4, false, 0, .slv [0] (.int .u8)⟩], [3, 4, 6, 7]), sumF s_l01Hash.sh3 (s_l01Hash.G3 fuel), s_l01Hash.ko3⟩
theorem s_l01Hash.ok3 (hE : EOk Try.prog (s_l01Hash.E)) : SumOk Try.prog s_l01Hash.E (cB (cR (cL (cR (cR (cR (cR (cR (cR (bodyOf Try.f122)))))))))) (s_l01Hash.S3) := by
  have hh : HintOk Try.prog s_l01Hash.E (cB (cB (cR (cL (cR (cR (cR (cR (cR (cR (bodyOf Try.f122))))))))))) (.a) := HintOk.n1 (Q := True) (by kernel_rfl) trivial
  have h := loopS (kin := ([⟨4, false, 0, .slv [0] (.int .u8)⟩], [3, 4, 6, 7])) (kout := s_l01Hash.ko3) (sh := s_l01Hash.sh3) (F := s_l01Hash.G3) (ops_ok (hE.gv _)) (by kernel_rfl) hh (fun _ _ _ => rfl) (fun n R t K => by kernel_rfl) fuel
  exact HintOk.n1 (c := (cB (cR (cL (cR (cR (cR (cR (cR (cR (bodyOf Try.f122))))))))))) (h := .s (s_l01Hash.S3)) (P := Try.prog) (E := s_l01Hash.E) (by kernel_rfl) h
def s_l01Hash.sh4 : SK := ⟨[.v (.one (.slo 0)), .v (.one (.slo 1)), .v (.one (.int .i64))], [.arr (.int .u32) [] true, .arr (.int .u8) [] true]⟩
def s_l01Hash.sh4e6 : SK := ⟨[.v (.one (.slo 0))], [.arr (.int .u8) [] true]⟩
def s_l01Hash.ko4 : Ex → List CastAt × List Nat
  | .nrm => ([], [])
  | .ret => ([], [])
  | .ext i => cond (Nat.beq i 6) ([], [8]) ([], [])
def s_l01Hash.G4 (n : Nat) (R : Type) (t : s_l01Hash.sh4.T) (K : Ex → Kp → Option R) : Option R := s_l01Hash.l4 (fun y0 => K (.ext 6) (SK.enc s_l01Hash.sh4e6 (((), ()), (y0, ())))) n t.1.2.2.1 t.2.1 t.2.2.1
def s_l01Hash.S4 : Sum := ⟨([], [3, 8, 9]), sumF s_l01Hash.sh4 (s_l01Hash.G4 fuel), s_l01Hash.ko4⟩
theorem s_l01Hash.ok4 (hE : EOk Try.prog (s_l01Hash.E)) : SumOk Try.prog s_l01Hash.E (cB (cR (cL (cR (cR (cR (cR (cR (cR (cR (cR (bodyOf Try.f122)))))))))))) (s_l01Hash.S4) := by
  have hh : HintOk Try.prog s_l01Hash.E (cB (cB (cR (cL (cR (cR (cR (cR (cR (cR (cR (cR (bodyOf Try.f122))))))))))))) (.a) := HintOk.n1 (Q := True) (by kernel_rfl) trivial
  have h := loopS (kin := ([], [3, 8, 9])) (kout := s_l01Hash.ko4) (sh := s_l01Hash.sh4) (F := s_l01Hash.G4) (ops_ok (hE.gv _)) (by kernel_rfl) hh (fun _ _ _ => rfl) (fun n R t K => by kernel_rfl) fuel
  exact HintOk.n1 (c := (cB (cR (cL (cR (cR (cR (cR (cR (cR (cR (cR (bodyOf Try.f122))))))))))))) (h := .s (s_l01Hash.S4)) (P := Try.prog) (E := s_l01Hash.E) (by kernel_rfl) h
theorem s_l01Hash.hok (hE : EOk Try.prog (s_l01Hash.E)) : HintOk Try.prog s_l01Hash.E (bodyOf Try.f122) (.n (.a) (.n (.a) (.n (.a) (.n (.b (.s (s_l01Hash.S1))) (.n (.n (.a) (.b (.s (s_l01Hash.S2)))) (.n (.a) (.n (.n (.a) (.b (.s (s_l01Hash.S3)))) (.n (.a) (.n (.n (.a) (.b (.s (s_l01Hash.S4)))) (.a)))))))))) := HintOk.n1 (Q := (True) ∧ ((True) ∧ ((True) ∧ ((SumOk Try.prog s_l01Hash.E (cB (cL (cR (cR (cR (bodyOf Try.f122)))))) (s_l01Hash.S1)) ∧ (((True) ∧ (SumOk Try.prog s_l01Hash.E (cB (cR (cL (cR (cR (cR (cR (bodyOf Try.f122)))))))) (s_l01Hash.S2))) ∧ ((True) ∧ (((True) ∧ (SumOk Try.prog s_l01Hash.E (cB (cR (cL (cR (cR (cR (cR (cR (cR (bodyOf Try.f122)))))))))) (s_l01Hash.S3))) ∧ ((True) ∧ (((True) ∧ (SumOk Try.prog s_l01Hash.E (cB (cR (cL (cR (cR (cR (cR (cR (cR (cR (cR (bodyOf Try.f122)))))))))))) (s_l01Hash.S4))) ∧ (True)))))))))) (by kernel_rfl) ⟨trivial, ⟨trivial, ⟨trivial, ⟨(s_l01Hash.ok1 hE), ⟨⟨trivial, (s_l01Hash.ok2 hE)⟩, ⟨trivial, ⟨⟨trivial, (s_l01Hash.ok3 hE)⟩, ⟨trivial, ⟨⟨trivial, (s_l01Hash.ok4 hE)⟩, trivial⟩⟩⟩⟩⟩⟩⟩⟩⟩
theorem s_l01Hash.hE : EOk Try.prog (s_l01Hash.E) := EOk.of ttOk (⟨s_l01Consts.fok, ⟨s_l01Block.fok, trivial⟩⟩)
theorem s_l01Hash.fok : FOk Try.prog 122 s_l01Hash.fi :=
  fokS (E := s_l01Hash.E) (wy := ⟨[[none]], [[]], []⟩) (h := (fun gs => .n (.a) (.n (.a) (.n (.a) (.n (.b (.s (s_l01Hash.S1))) (.n (.n (.a) (.b (.s (s_l01Hash.S2)))) (.n (.a) (.n (.n (.a) (.b (.s (s_l01Hash.S3)))) (.n (.a) (.n (.n (.a) (.b (.s (s_l01Hash.S4)))) (.a))))))))))) (G := fun t g => s_l01Hash.F (fun y0 => g y0) t.1) (by kernel_rfl) s_l01Hash.hE Try.func122 (by kernel_rfl) rfl (Nat.le_refl _) (fun t => HintOk.n1 (by kernel_rfl) (s_l01Hash.hok s_l01Hash.hE)) (fun t g => s_l01Hash_nat g t.1) (fun t => by kernel_rfl)
/-! loop.example_g00220_spec.l06Node -/
def s_l06Node.F {R : Type} (kk : ByteArray → Option R) (a : ByteArray) (b : ByteArray) : Option R :=
  grd (gRm (((List.length [(1 : Int)]) + (List.length (bytesL a))) * 1)) <|
  grd (gRm (((List.length ([(1 : Int)] ++ (bytesL a))) + (List.length (bytesL b))) * 1)) <|
  (s_l01Hash (([(1 : Int)] ++ (bytesL a)) ++ (bytesL b))).bind fun r =>
  kk r
theorem s_l06Node.F_nat {R S : Type} (g : R → Option S) (kk : ByteArray → Option R) (a : ByteArray) (b : ByteArray) : s_l06Node.F (fun y0 => (kk y0).bind g) a b = (s_l06Node.F kk a b).bind g := by
  simp only [s_l06Node.F, grd_bind, cnd_bind, bnd_bind, non_bind]
def s_l06Node (a : ByteArray) (b : ByteArray) : Option ByteArray := s_l06Node.F (fun y0 => some y0) a b
theorem s_l06Node_nat {S : Type} (g : ByteArray → Option S) (a : ByteArray) (b : ByteArray) : s_l06Node.F (fun y0 => g y0) a b = (s_l06Node a b).bind g := s_l06Node.F_nat g (fun y0 => some y0) a b
def s_l06Node.out : ByteArray → CRes := fun a => ⟨encL SV.enc [.one (.str)] (a, ()), [encL SC.enc [] (), encL SC.enc [] ()]⟩
def s_l06Node.ps : List PS := [.val [none], .val [none]]
def s_l06Node.sA : List SA := [.v (.one (.str)), .v (.one (.str))]
def s_l06Node.fi : FI := FIs s_l06Node.sA (ByteArray) (fun t => s_l06Node t.1 t.2.1) s_l06Node.out s_l06Node.ps
def s_l06Node.E : Env := ⟨tt, lkF [(122, s_l01Hash.fi)], 11, 0, [], []⟩
theorem s_l06Node.hok (hE : EOk Try.prog (s_l06Node.E)) : HintOk Try.prog s_l06Node.E (bodyOf Try.f116) (.a) := HintOk.n1 (Q := True) (by kernel_rfl) trivial
theorem s_l06Node.hE : EOk Try.prog (s_l06Node.E) := EOk.of ttOk (⟨s_l01Hash.fok, trivial⟩)
theorem s_l06Node.fok : FOk Try.prog 116 s_l06Node.fi :=
  fokS (E := s_l06Node.E) (wy := ⟨[[none]], [[], []], []⟩) (h := (fun gs => .a)) (G := fun t g => s_l06Node.F (fun y0 => g y0) t.1 t.2.1) (by kernel_rfl) s_l06Node.hE Try.func116 (by kernel_rfl) rfl (Nat.le_refl _) (fun t => HintOk.n1 (by kernel_rfl) (s_l06Node.hok s_l06Node.hE)) (fun t g => s_l06Node_nat g t.1 t.2.1) (fun t => by kernel_rfl)
/-! loop.example_g00220_spec.l15Inputs -/
def s_l15Inputs.F {R : Type} (rc : ByteArray → Int → Int → List ByteArray → Option (List ByteArray × ByteArray × Bool)) (kk : List ByteArray → ByteArray → Bool → Option R) (leaf : ByteArray) (at_ : Int) (size : Int) (proof : List ByteArray) : Option R :=
  cond (size == (1 : Int)) (kk ([] : List ByteArray) leaf ((List.length proof : Int) == (0 : Int))) (
    cond ((List.length proof : Int) == (0 : Int)) (kk ([] : List ByteArray) ByteArray.empty false) (
      (s_l06Half size).bind fun r =>
      grd (gIx (IntKind.wrap .i64 ((List.length proof : Int) - (1 : Int))) (List.length proof)) <|
      grd (gSl (0 : Int) (IntKind.wrap .i64 ((List.length proof : Int) - (1 : Int))) (List.length proof)) <|
      cond (decide (at_ < r)) (
        (rc leaf at_ r (sub proof (0 : Int) (IntKind.wrap .i64 ((List.length proof : Int) - (1 : Int))))).bind fun r1 =>
        grd (gCat (⟨#[1]⟩ : ByteArray) r1.2.1) <|
        grd (gCat ((⟨#[1]⟩ : ByteArray) ++ r1.2.1) (rdE (.str : Kd) proof (Int.toNat (IntKind.wrap .i64 ((List.length proof : Int) - (1 : Int)))))) <|
        grd (gRm (((List.length r1.1) + (List.length ([((⟨#[1]⟩ : ByteArray) ++ r1.2.1) ++ (rdE (.str : Kd) proof (Int.toNat (IntKind.wrap .i64 ((List.length proof : Int) - (1 : Int)))))]))) * 16)) <|
        (s_l06Node r1.2.1 (rdE (.str : Kd) proof (Int.toNat (IntKind.wrap .i64 ((List.length proof : Int) - (1 : Int)))))).bind fun r2 =>
        kk (r1.1 ++ ([((⟨#[1]⟩ : ByteArray) ++ r1.2.1) ++ (rdE (.str : Kd) proof (Int.toNat (IntKind.wrap .i64 ((List.length proof : Int) - (1 : Int)))))])) r2 r1.2.2) (
        (rc leaf (IntKind.wrap .i64 (at_ - r)) (IntKind.wrap .i64 (size - r)) (sub proof (0 : Int) (IntKind.wrap .i64 ((List.length proof : Int) - (1 : Int))))).bind fun r3 =>
        grd (gCat (⟨#[1]⟩ : ByteArray) (rdE (.str : Kd) proof (Int.toNat (IntKind.wrap .i64 ((List.length proof : Int) - (1 : Int)))))) <|
        grd (gCat ((⟨#[1]⟩ : ByteArray) ++ (rdE (.str : Kd) proof (Int.toNat (IntKind.wrap .i64 ((List.length proof : Int) - (1 : Int)))))) r3.2.1) <|
        grd (gRm (((List.length r3.1) + (List.length ([((⟨#[1]⟩ : ByteArray) ++ (rdE (.str : Kd) proof (Int.toNat (IntKind.wrap .i64 ((List.length proof : Int) - (1 : Int)))))) ++ r3.2.1]))) * 16)) <|
        (s_l06Node (rdE (.str : Kd) proof (Int.toNat (IntKind.wrap .i64 ((List.length proof : Int) - (1 : Int))))) r3.2.1).bind fun r4 =>
        kk (r3.1 ++ ([((⟨#[1]⟩ : ByteArray) ++ (rdE (.str : Kd) proof (Int.toNat (IntKind.wrap .i64 ((List.length proof : Int) - (1 : Int)))))) ++ r3.2.1])) r4 r3.2.2)))
theorem s_l15Inputs.F_nat {R S : Type} (g : R → Option S) (rc : ByteArray → Int → Int → List ByteArray → Option (List ByteArray × ByteArray × Bool)) (kk : List ByteArray → ByteArray → Bool → Option R) (leaf : ByteArray) (at_ : Int) (size : Int) (proof : List ByteArray) : s_l15Inputs.F rc (fun y0 y1 y2 => (kk y0 y1 y2).bind g) leaf at_ size proof = (s_l15Inputs.F rc kk leaf at_ size proof).bind g := by
  simp only [s_l15Inputs.F, grd_bind, cnd_bind, bnd_bind, non_bind]
def s_l15Inputs : Nat → ByteArray → Int → Int → List ByteArray → Option (List ByteArray × ByteArray × Bool)
  | 0, _, _, _, _ => none
  | fu + 1, leaf, at_, size, proof => s_l15Inputs.F (s_l15Inputs fu) (fun y0 y1 y2 => some (y0, y1, y2)) leaf at_ size proof
theorem s_l15Inputs_nat {S : Type} (fu : Nat) (g : (List ByteArray × ByteArray × Bool) → Option S) (leaf : ByteArray) (at_ : Int) (size : Int) (proof : List ByteArray) : s_l15Inputs.F (s_l15Inputs fu) (fun y0 y1 y2 => g (y0, y1, y2)) leaf at_ size proof = (s_l15Inputs (fu + 1) leaf at_ size proof).bind g := s_l15Inputs.F_nat g (s_l15Inputs fu) (fun y0 y1 y2 => some (y0, y1, y2)) leaf at_ size proof
def s_l15Inputs.out : (List ByteArray × ByteArray × Bool) → CRes := fun a => ⟨encL SV.enc [.one (.own [] .str true), .one (.str), .one (.bool)] (a.1, a.2.1, a.2.2, ()), [encL SC.enc [] (), encL SC.enc [] (), encL SC.enc [] (), encL SC.enc [] ()]⟩
def s_l15Inputs.ps : List PS := [.val [none], .val [none], .val [none], .val [some (.str, false)]]
def s_l15Inputs.sA : List SA := [.v (.one (.str)), .v (.one (.int .i64)), .v (.one (.int .i64)), .v (.one (.slv [] .str))]
def s_l15Inputs.fi (fu : Nat) : FI := FIs s_l15Inputs.sA (List ByteArray × ByteArray × Bool) (fun t => s_l15Inputs fu t.1 t.2.1 t.2.2.1 t.2.2.2.1) s_l15Inputs.out s_l15Inputs.ps
def s_l15Inputs.E (fu : Nat) : Env := ⟨tt, lkF [(70, s_l15Inputs.fi fu), (115, s_l06Half.fi), (116, s_l06Node.fi)], 91, 0, [], []⟩
theorem s_l15Inputs.hok (fu : Nat) (hE : EOk Try.prog (s_l15Inputs.E fu)) : HintOk Try.prog (s_l15Inputs.E fu) (bodyOf Try.f70) (.a) := HintOk.n1 (Q := True) (by kernel_rfl) trivial
theorem s_l15Inputs.fok0 : FOk Try.prog 70 (s_l15Inputs.fi 0) := FOk.zero ⟨_, _, Try.func70, by kernel_rfl, rfl⟩ (fun _ => rfl)
theorem s_l15Inputs.fok1 (fu : Nat) (ih : FOk Try.prog 70 (s_l15Inputs.fi fu)) : FOk Try.prog 70 (s_l15Inputs.fi (fu + 1)) := by
  have hE : EOk Try.prog (s_l15Inputs.E fu) := EOk.of ttOk (⟨ih, ⟨s_l06Half.fok, ⟨s_l06Node.fok, trivial⟩⟩⟩)
  exact fokS (E := s_l15Inputs.E fu) (wy := ⟨[[some (.str, true)], [none], [none]], [[], [], [], []], []⟩) (h := (fun gs => .a)) (G := fun t g => s_l15Inputs.F (s_l15Inputs fu) (fun y0 y1 y2 => g (y0, y1, y2)) t.1 t.2.1 t.2.2.1 t.2.2.2.1) (by kernel_rfl) hE Try.func70 (by kernel_rfl) rfl (Nat.le_refl _) (fun t => HintOk.n1 (by kernel_rfl) (s_l15Inputs.hok fu hE)) (fun t g => s_l15Inputs_nat fu g t.1 t.2.1 t.2.2.1 t.2.2.2.1) (fun t => by kernel_rfl)
theorem s_l15Inputs.fok (fu : Nat) : FOk Try.prog 70 (s_l15Inputs.fi fu) := Nat.rec s_l15Inputs.fok0 s_l15Inputs.fok1 fu
/-! loop.example_g00220_spec.Collision -/
def s_Collision.l1 {R : Type} (kke0 : Option R) (kkr : ByteArray → ByteArray → Int → Option R) : Nat → Int → List ByteArray → List ByteArray → Option R
  | 0, _, _, _ => none
  | n + 1, i, a, b =>
    cond (decide (i ≥ (0 : Int))) (
      grd (gIx i (List.length a)) <|
      grd (gIx i (List.length b)) <|
      cond (!(sEq (rdE (.str : Kd) a (Int.toNat i)) (rdE (.str : Kd) b (Int.toNat i)))) (
        grd (gIx i (List.length a)) <|
        grd (gIx i (List.length b)) <|
        kkr (rdE (.str : Kd) a (Int.toNat i)) (rdE (.str : Kd) b (Int.toNat i)) (0 : Int)) (s_Collision.l1 kke0 kkr n (IntKind.wrap .i64 (i - (1 : Int))) a b)) (kke0)
theorem s_Collision.l1_nat {R S : Type} (g : R → Option S) (kke0 : Option R) (kkr : ByteArray → ByteArray → Int → Option R) : ∀ (n : Nat) (i : Int) (a : List ByteArray) (b : List ByteArray), s_Collision.l1 (kke0.bind g) (fun y0 y1 y2 => (kkr y0 y1 y2).bind g) n i a b = (s_Collision.l1 kke0 kkr n i a b).bind g := by
  intro n
  induction n with
  | zero => intros; rfl
  | succ n ih => intros; simp only [s_Collision.l1, grd_bind, cnd_bind, bnd_bind, non_bind, ih]
def s_Collision.F {R : Type} (kk : ByteArray → ByteArray → Int → Option R) (at_ : Int) (size : Int) (leafA : ByteArray) (proofA : List ByteArray) (leafB : ByteArray) (proofB : List ByteArray) : Option R :=
  cond (decide ((ByteArray.size leafA : Int) > (65536 : Int))) (kk ByteArray.empty ByteArray.empty (2 : Int)) (
    cond (decide ((ByteArray.size leafB : Int) > (65536 : Int))) (kk ByteArray.empty ByteArray.empty (2 : Int)) (
      cond (decide ((List.length proofA : Int) > (4096 : Int))) (kk ByteArray.empty ByteArray.empty (2 : Int)) (
        cond (decide ((List.length proofB : Int) > (4096 : Int))) (kk ByteArray.empty ByteArray.empty (2 : Int)) (
          (s_l06Hashes proofA).bind fun r =>
          cond (!r) (kk ByteArray.empty ByteArray.empty (1 : Int)) (
            (s_l06Hashes proofB).bind fun r1 =>
            cond (!r1) (kk ByteArray.empty ByteArray.empty (1 : Int)) (
              cond ((ByteArray.size leafA : Int) != (32 : Int)) (kk ByteArray.empty ByteArray.empty (1 : Int)) (
                cond ((ByteArray.size leafB : Int) != (32 : Int)) (kk ByteArray.empty ByteArray.empty (1 : Int)) (
                  (s_l01In size (1 : Int) (64 : Int)).bind fun r2 =>
                  cond (!r2) (kk ByteArray.empty ByteArray.empty (4 : Int)) (
                    (s_l01In at_ (0 : Int) (IntKind.wrap .i64 (size - (1 : Int)))).bind fun r3 =>
                    cond (!r3) (kk ByteArray.empty ByteArray.empty (4 : Int)) (
                      (s_l15Inputs fuel leafA at_ size proofA).bind fun r4 =>
                      (s_l15Inputs fuel leafB at_ size proofB).bind fun r5 =>
                      cond (!r4.2.2) (kk ByteArray.empty ByteArray.empty (10 : Int)) (
                        cond (!r5.2.2) (kk ByteArray.empty ByteArray.empty (10 : Int)) (
                          cond (!(sEq r4.2.1 r5.2.1)) (kk ByteArray.empty ByteArray.empty (11 : Int)) (
                            s_Collision.l1 (kk ByteArray.empty ByteArray.empty (5 : Int)) (fun s s1 i => kk s s1 i) fuel (IntKind.wrap .i64 ((List.length r4.1 : Int) - (1 : Int))) r4.1 r5.1)))))))))))))
theorem s_Collision.F_nat {R S : Type} (g : R → Option S) (kk : ByteArray → ByteArray → Int → Option R) (at_ : Int) (size : Int) (leafA : ByteArray) (proofA : List ByteArray) (leafB : ByteArray) (proofB : List ByteArray) : s_Collision.F (fun y0 y1 y2 => (kk y0 y1 y2).bind g) at_ size leafA proofA leafB proofB = (s_Collision.F kk at_ size leafA proofA leafB proofB).bind g := by
  simp only [s_Collision.F, grd_bind, cnd_bind, bnd_bind, non_bind, ← s_Collision.l1_nat]
def s_Collision (at_ : Int) (size : Int) (leafA : ByteArray) (proofA : List ByteArray) (leafB : ByteArray) (proofB : List ByteArray) : Option (ByteArray × ByteArray × Int) := s_Collision.F (fun y0 y1 y2 => some (y0, y1, y2)) at_ size leafA proofA leafB proofB
theorem s_Collision_nat {S : Type} (g : (ByteArray × ByteArray × Int) → Option S) (at_ : Int) (size : Int) (leafA : ByteArray) (proofA : List ByteArray) (leafB : ByteArray) (proofB : List ByteArray) : s_Collision.F (fun y0 y1 y2 => g (y0, y1, y2)) at_ size leafA proofA leafB proofB = (s_Collision at_ size leafA proofA leafB proofB).bind g := s_Collision.F_nat g (fun y0 y1 y2 => some (y0, y1, y2)) at_ size leafA proofA leafB proofB
def s_Collision.out : (ByteArray × ByteArray × Int) → CRes := fun a => ⟨encL SV.enc [.one (.str), .one (.str), .one (.int .i64)] (a.1, a.2.1, a.2.2, ()), [encL SC.enc [] (), encL SC.enc [] (), encL SC.enc [] (), encL SC.enc [] (), encL SC.enc [] (), encL SC.enc [] ()]⟩
def s_Collision.ps : List PS := [.val [none], .val [none], .val [none], .val [some (.str, false)], .val [none], .val [some (.str, false)]]
def s_Collision.sA : List SA := [.v (.one (.int .i64)), .v (.one (.int .i64)), .v (.one (.str)), .v (.one (.slv [] .str)), .v (.one (.str)), .v (.one (.slv [] .str))]
def s_Collision.fi : FI := FIs s_Collision.sA (ByteArray × ByteArray × Int) (fun t => s_Collision t.1 t.2.1 t.2.2.1 t.2.2.2.1 t.2.2.2.2.1 t.2.2.2.2.2.1) s_Collision.out s_Collision.ps
def s_Collision.E : Env := ⟨tt, lkF [(68, s_l06Hashes.fi), (69, s_l01In.fi), (70, s_l15Inputs.fi fuel)], 117, 0, [], []⟩
def s_Collision.sh1 : SK := ⟨[.v (.one (.slo 0)), .v (.one (.slo 1)), .v (.one (.int .i64))], [.arr .str [] true, .arr .str [] true]⟩
def s_Collision.sh1e0 : SK := ⟨[], []⟩
def s_Collision.sh1r : SK := ⟨[.v (.one (.str)), .v (.one (.str)), .v (.one (.int .i64))], []⟩
def s_Collision.ko1 : Ex → List CastAt × List Nat
  | .nrm => ([], [])
  | .ret => ([], [12, 13, 14])
  | .ext i => cond (Nat.beq i 0) ([], []) ([], [])
def s_Collision.G1 (n : Nat) (R : Type) (t : s_Collision.sh1.T) (K : Ex → Kp → Option R) : Option R := s_Collision.l1 (K (.ext 0) (SK.enc s_Collision.sh1e0 ((), ()))) (fun y0 y1 y2 => K .ret (SK.enc s_Collision.sh1r ((y0, y1, y2, ()), ()))) n t.1.2.2.1 t.2.1 t.2.2.1
def s_Collision.S1 : Sum := ⟨([], [15, 18, 21]), sumF s_Collision.sh1 (s_Collision.G1 fuel), s_Collision.ko1⟩
theorem s_Collision.ok1 (hE : EOk Try.prog (s_Collision.E)) : SumOk Try.prog s_Collision.E (cB (cR (cL (cR (cR (cR (cR (cR (cR (cR (cR (cR (bodyOf Try.f28))))))))))))) (s_Collision.S1) := by
  have hh : HintOk Try.prog s_Collision.E (cB (cB (cR (cL (cR (cR (cR (cR (cR (cR (cR (cR (cR (bodyOf Try.f28)))))))))))))) (.a) := HintOk.n1 (Q := True) (by kernel_rfl) trivial
  have h := loopS (kin := ([], [15, 18, 21])) (kout := s_Collision.ko1) (sh := s_Collision.sh1) (F := s_Collision.G1) (ops_ok (hE.gv _)) (by kernel_rfl) hh (fun _ _ _ => rfl) (fun n R t K => by kernel_rfl) fuel
  exact HintOk.n1 (c := (cB (cR (cL (cR (cR (cR (cR (cR (cR (cR (cR (cR (bodyOf Try.f28)))))))))))))) (h := .s (s_Collision.S1)) (P := Try.prog) (E := s_Collision.E) (by kernel_rfl) h
theorem s_Collision.hok (hE : EOk Try.prog (s_Collision.E)) : HintOk Try.prog s_Collision.E (bodyOf Try.f28) (.n (.a) (.n (.a) (.n (.a) (.n (.a) (.n (.a) (.n (.a) (.n (.a) (.n (.a) (.n (.a) (.n (.n (.a) (.b (.s (s_Collision.S1)))) (.a))))))))))) := HintOk.n1 (Q := (True) ∧ ((True) ∧ ((True) ∧ ((True) ∧ ((True) ∧ ((True) ∧ ((True) ∧ ((True) ∧ ((True) ∧ (((True) ∧ (SumOk Try.prog s_Collision.E (cB (cR (cL (cR (cR (cR (cR (cR (cR (cR (cR (cR (bodyOf Try.f28))))))))))))) (s_Collision.S1))) ∧ (True))))))))))) (by kernel_rfl) ⟨trivial, ⟨trivial, ⟨trivial, ⟨trivial, ⟨trivial, ⟨trivial, ⟨trivial, ⟨trivial, ⟨trivial, ⟨⟨trivial, (s_Collision.ok1 hE)⟩, trivial⟩⟩⟩⟩⟩⟩⟩⟩⟩⟩
theorem s_Collision.hE : EOk Try.prog (s_Collision.E) := EOk.of ttOk (⟨s_l06Hashes.fok, ⟨s_l01In.fok, ⟨s_l15Inputs.fok fuel, trivial⟩⟩⟩)
theorem s_Collision.fok : FOk Try.prog 28 s_Collision.fi :=
  fokS (E := s_Collision.E) (wy := ⟨[[none], [none], [none]], [[], [], [], [], [], []], []⟩) (h := (fun gs => .n (.a) (.n (.a) (.n (.a) (.n (.a) (.n (.a) (.n (.a) (.n (.a) (.n (.a) (.n (.a) (.n (.n (.a) (.b (.s (s_Collision.S1)))) (.a)))))))))))) (G := fun t g => s_Collision.F (fun y0 y1 y2 => g (y0, y1, y2)) t.1 t.2.1 t.2.2.1 t.2.2.2.1 t.2.2.2.2.1 t.2.2.2.2.2.1) (by kernel_rfl) s_Collision.hE Try.func28 (by kernel_rfl) rfl (Nat.le_refl _) (fun t => HintOk.n1 (by kernel_rfl) (s_Collision.hok s_Collision.hE)) (fun t g => s_Collision_nat g t.1 t.2.1 t.2.2.1 t.2.2.2.1 t.2.2.2.2.1 t.2.2.2.2.2.1) (fun t => by kernel_rfl)
/-! loop.example_g00220_impl.isList_string_ -/
def i_isList_string.F {R : Type} (kk : Bool → Option R) (list : List ByteArray) : Option R :=
  kk (decide ((List.length list : Int) ≤ (4096 : Int)))
theorem i_isList_string.F_nat {R S : Type} (g : R → Option S) (kk : Bool → Option R) (list : List ByteArray) : i_isList_string.F (fun y0 => (kk y0).bind g) list = (i_isList_string.F kk list).bind g := by
  simp only [i_isList_string.F, grd_bind, cnd_bind, bnd_bind, non_bind]
def i_isList_string (list : List ByteArray) : Option Bool := i_isList_string.F (fun y0 => some y0) list
theorem i_isList_string_nat {S : Type} (g : Bool → Option S) (list : List ByteArray) : i_isList_string.F (fun y0 => g y0) list = (i_isList_string list).bind g := i_isList_string.F_nat g (fun y0 => some y0) list
def i_isList_string.out : Bool → CRes := fun a => ⟨encL SV.enc [.one (.bool)] (a, ()), [encL SC.enc [] ()]⟩
def i_isList_string.ps : List PS := [.val [some (.str, false)]]
def i_isList_string.sA : List SA := [.v (.one (.slv [] .str))]
def i_isList_string.fi : FI := FIs i_isList_string.sA (Bool) (fun t => i_isList_string t.1) i_isList_string.out i_isList_string.ps
def i_isList_string.E : Env := ⟨tt, lkF [], 6, 0, [], []⟩
theorem i_isList_string.hok (hE : EOk Try.prog (i_isList_string.E)) : HintOk Try.prog i_isList_string.E (bodyOf Try.f62) (.a) := HintOk.n1 (Q := True) (by kernel_rfl) trivial
theorem i_isList_string.hE : EOk Try.prog (i_isList_string.E) := EOk.of ttOk (trivial)
theorem i_isList_string.fok : FOk Try.prog 62 i_isList_string.fi :=
  fokS (E := i_isList_string.E) (wy := ⟨[[none]], [[]], []⟩) (h := (fun gs => .a)) (G := fun t g => i_isList_string.F (fun y0 => g y0) t.1) (by kernel_rfl) i_isList_string.hE Try.func62 (by kernel_rfl) rfl (Nat.le_refl _) (fun t => HintOk.n1 (by kernel_rfl) (i_isList_string.hok i_isList_string.hE)) (fun t g => i_isList_string_nat g t.1) (fun t => by kernel_rfl)
/-! slices.IndexFunc___string_string_ -/
def slices_IndexFunc_SLstring_string.l1 {R : Type} (f : ((ByteArray × Unit) → Option (Bool × Unit))) (kke0 : Option R) (kkr : Int → Option R) : Nat → List ByteArray → Int → Int → Option R
  | 0, _, _, _ => none
  | n + 1, s, i, i1 =>
    cond (decide (i1 < i)) (
      grd (gIx i1 (List.length s)) <|
      (f (rdE (.str : Kd) s (Int.toNat i1), ())).bind fun r =>
      cond (r.1) (kkr i1) (slices_IndexFunc_SLstring_string.l1 f kke0 kkr n s i (IntKind.wrap .i64 (i1 + (1 : Int))))) (kke0)
theorem slices_IndexFunc_SLstring_string.l1_nat {R S : Type} (g : R → Option S) (f : ((ByteArray × Unit) → Option (Bool × Unit))) (kke0 : Option R) (kkr : Int → Option R) : ∀ (n : Nat) (s : List ByteArray) (i : Int) (i1 : Int), slices_IndexFunc_SLstring_string.l1 f (kke0.bind g) (fun y0 => (kkr y0).bind g) n s i i1 = (slices_IndexFunc_SLstring_string.l1 f kke0 kkr n s i i1).bind g := by
  intro n
  induction n with
  | zero => intros; rfl
  | succ n ih => intros; simp only [slices_IndexFunc_SLstring_string.l1, grd_bind, cnd_bind, bnd_bind, non_bind, ih]
def slices_IndexFunc_SLstring_string.F {R : Type} (kk : Int → Option R) (s : List ByteArray) (f : ((ByteArray × Unit) → Option (Bool × Unit))) : Option R :=
  slices_IndexFunc_SLstring_string.l1 f (kk (-1 : Int)) (fun i => kk i) fuel s (List.length s : Int) (0 : Int)
theorem slices_IndexFunc_SLstring_string.F_nat {R S : Type} (g : R → Option S) (kk : Int → Option R) (s : List ByteArray) (f : ((ByteArray × Unit) → Option (Bool × Unit))) : slices_IndexFunc_SLstring_string.F (fun y0 => (kk y0).bind g) s f = (slices_IndexFunc_SLstring_string.F kk s f).bind g := by
  simp only [slices_IndexFunc_SLstring_string.F, grd_bind, cnd_bind, bnd_bind, non_bind, ← slices_IndexFunc_SLstring_string.l1_nat]
def slices_IndexFunc_SLstring_string (s : List ByteArray) (f : ((ByteArray × Unit) → Option (Bool × Unit))) : Option Int := slices_IndexFunc_SLstring_string.F (fun y0 => some y0) s f
theorem slices_IndexFunc_SLstring_string_nat {S : Type} (g : Int → Option S) (s : List ByteArray) (f : ((ByteArray × Unit) → Option (Bool × Unit))) : slices_IndexFunc_SLstring_string.F (fun y0 => g y0) s f = (slices_IndexFunc_SLstring_string s f).bind g := slices_IndexFunc_SLstring_string.F_nat g (fun y0 => some y0) s f
def slices_IndexFunc_SLstring_string.out : Int → CRes := fun a => ⟨encL SV.enc [.one (.int .i64)] (a, ()), [encL SC.enc [] (), encL SC.enc [] ()]⟩
def slices_IndexFunc_SLstring_string.ps : List PS := [.val [some (.str, false)], .fn [.one (.bool)]]
def slices_IndexFunc_SLstring_string.sA : List SA := [.v (.one (.slv [] .str)), .fn [.one (.str)] [.one (.bool)]]
def slices_IndexFunc_SLstring_string.fi : FI := FIs slices_IndexFunc_SLstring_string.sA (Int) (fun t => slices_IndexFunc_SLstring_string t.1 t.2.1) slices_IndexFunc_SLstring_string.out slices_IndexFunc_SLstring_string.ps
def slices_IndexFunc_SLstring_string.E : Env := ⟨tt, lkF [], 19, 0, [], []⟩
def slices_IndexFunc_SLstring_string.sh1 : SK := ⟨[.v (.one (.slv [1] .str)), .v (.one (.fv 0)), .v (.one (.int .i64)), .v (.one (.int .i64))], []⟩
def slices_IndexFunc_SLstring_string.sh1e0 : SK := ⟨[], []⟩
def slices_IndexFunc_SLstring_string.sh1r : SK := ⟨[.v (.one (.int .i64))], []⟩
def slices_IndexFunc_SLstring_string.ko1 : Ex → List CastAt × List Nat
  | .nrm => ([], [])
  | .ret => ([], [4])
  | .ext i => cond (Nat.beq i 0) ([], []) ([], [])
def slices_IndexFunc_SLstring_string.G1 (f : ((ByteArray × Unit) → Option (Bool × Unit))) (n : Nat) (R : Type) (t : slices_IndexFunc_SLstring_string.sh1.T) (K : Ex → Kp → Option R) : Option R := slices_IndexFunc_SLstring_string.l1 f (K (.ext 0) (SK.enc slices_IndexFunc_SLstring_string.sh1e0 ((), ()))) (fun y0 => K .ret (SK.enc slices_IndexFunc_SLstring_string.sh1r ((y0, ()), ()))) n t.1.1 t.1.2.2.1 t.1.2.2.2.1
def slices_IndexFunc_SLstring_string.S1 (f : ((ByteArray × Unit) → Option (Bool × Unit))) : Sum := ⟨([], [0, 1, 7, 8]), sumF slices_IndexFunc_SLstring_string.sh1 (slices_IndexFunc_SLstring_string.G1 f fuel), slices_IndexFunc_SLstring_string.ko1⟩
theorem slices_IndexFunc_SLstring_string.ok1 (f : ((ByteArray × Unit) → Option (Bool × Unit))) (hE : EOk Try.prog (slices_IndexFunc_SLstring_string.E)) : SumOk Try.prog { (slices_IndexFunc_SLstring_string.E) with gv := [fnE [.one (.str)] [.one (.bool)] f] } (cB (cR (cL (cR (bodyOf Try.f144))))) (slices_IndexFunc_SLstring_string.S1 f) := by
  have hh : HintOk Try.prog { (slices_IndexFunc_SLstring_string.E) with gv := [fnE [.one (.str)] [.one (.bool)] f] } (cB (cB (cR (cL (cR (bodyOf Try.f144)))))) (.a) := HintOk.n1 (Q := True) (by kernel_rfl) trivial
  have h := loopS (kin := ([], [0, 1, 7, 8])) (kout := slices_IndexFunc_SLstring_string.ko1) (sh := slices_IndexFunc_SLstring_string.sh1) (F := slices_IndexFunc_SLstring_string.G1 f) (ops_ok (hE.gv _)) (by kernel_rfl) hh (fun _ _ _ => rfl) (fun n R t K => by kernel_rfl) fuel
  exact HintOk.n1 (c := (cB (cR (cL (cR (bodyOf Try.f144)))))) (h := .s (slices_IndexFunc_SLstring_string.S1 f)) (P := Try.prog) (E := { (slices_IndexFunc_SLstring_string.E) with gv := [fnE [.one (.str)] [.one (.bool)] f] }) (by kernel_rfl) h
theorem slices_IndexFunc_SLstring_string.hok (f : ((ByteArray × Unit) → Option (Bool × Unit))) (hE : EOk Try.prog (slices_IndexFunc_SLstring_string.E)) : HintOk Try.prog { (slices_IndexFunc_SLstring_string.E) with gv := [fnE [.one (.str)] [.one (.bool)] f] } (bodyOf Try.f144) (.n (.a) (.n (.n (.a) (.b (.s (slices_IndexFunc_SLstring_string.S1 f)))) (.a))) := HintOk.n1 (Q := (True) ∧ (((True) ∧ (SumOk Try.prog { (slices_IndexFunc_SLstring_string.E) with gv := [fnE [.one (.str)] [.one (.bool)] f] } (cB (cR (cL (cR (bodyOf Try.f144))))) (slices_IndexFunc_SLstring_string.S1 f))) ∧ (True))) (by kernel_rfl) ⟨trivial, ⟨⟨trivial, (slices_IndexFunc_SLstring_string.ok1 f hE)⟩, trivial⟩⟩
theorem slices_IndexFunc_SLstring_string.hE : EOk Try.prog (slices_IndexFunc_SLstring_string.E) := EOk.of ttOk (trivial)
theorem slices_IndexFunc_SLstring_string.fok : FOk Try.prog 144 slices_IndexFunc_SLstring_string.fi :=
  fokS (E := slices_IndexFunc_SLstring_string.E) (wy := ⟨[[none]], [[], []], []⟩) (h := (fun gs => let f := fnP [.one (.str)] [.one (.bool)] (gN 0 gs); .n (.a) (.n (.n (.a) (.b (.s (slices_IndexFunc_SLstring_string.S1 f)))) (.a)))) (G := fun t g => slices_IndexFunc_SLstring_string.F (fun y0 => g y0) t.1 t.2.1) (by kernel_rfl) slices_IndexFunc_SLstring_string.hE Try.func144 (by kernel_rfl) rfl (Nat.le_refl _) (fun t => HintOk.n1 (by kernel_rfl) (slices_IndexFunc_SLstring_string.hok t.2.1 slices_IndexFunc_SLstring_string.hE)) (fun t g => slices_IndexFunc_SLstring_string_nat g t.1 t.2.1) (fun t => by kernel_rfl)
/-! slices.ContainsFunc___string_string_ -/
def slices_ContainsFunc_SLstring_string.F {R : Type} (kk : Bool → Option R) (s : List ByteArray) (f : ((ByteArray × Unit) → Option (Bool × Unit))) : Option R :=
  (slices_IndexFunc_SLstring_string s f).bind fun r =>
  kk (decide (r ≥ (0 : Int)))
theorem slices_ContainsFunc_SLstring_string.F_nat {R S : Type} (g : R → Option S) (kk : Bool → Option R) (s : List ByteArray) (f : ((ByteArray × Unit) → Option (Bool × Unit))) : slices_ContainsFunc_SLstring_string.F (fun y0 => (kk y0).bind g) s f = (slices_ContainsFunc_SLstring_string.F kk s f).bind g := by
  simp only [slices_ContainsFunc_SLstring_string.F, grd_bind, cnd_bind, bnd_bind, non_bind]
def slices_ContainsFunc_SLstring_string (s : List ByteArray) (f : ((ByteArray × Unit) → Option (Bool × Unit))) : Option Bool := slices_ContainsFunc_SLstring_string.F (fun y0 => some y0) s f
theorem slices_ContainsFunc_SLstring_string_nat {S : Type} (g : Bool → Option S) (s : List ByteArray) (f : ((ByteArray × Unit) → Option (Bool × Unit))) : slices_ContainsFunc_SLstring_string.F (fun y0 => g y0) s f = (slices_ContainsFunc_SLstring_string s f).bind g := slices_ContainsFunc_SLstring_string.F_nat g (fun y0 => some y0) s f
def slices_ContainsFunc_SLstring_string.out : Bool → CRes := fun a => ⟨encL SV.enc [.one (.bool)] (a, ()), [encL SC.enc [] (), encL SC.enc [] ()]⟩
def slices_ContainsFunc_SLstring_string.ps : List PS := [.val [some (.str, false)], .fn [.one (.bool)]]
def slices_ContainsFunc_SLstring_string.sA : List SA := [.v (.one (.slv [] .str)), .fn [.one (.str)] [.one (.bool)]]
def slices_ContainsFunc_SLstring_string.fi : FI := FIs slices_ContainsFunc_SLstring_string.sA (Bool) (fun t => slices_ContainsFunc_SLstring_string t.1 t.2.1) slices_ContainsFunc_SLstring_string.out slices_ContainsFunc_SLstring_string.ps
def slices_ContainsFunc_SLstring_string.E : Env := ⟨tt, lkF [(144, slices_IndexFunc_SLstring_string.fi)], 9, 0, [], []⟩
theorem slices_ContainsFunc_SLstring_string.hok (f : ((ByteArray × Unit) → Option (Bool × Unit))) (hE : EOk Try.prog (slices_ContainsFunc_SLstring_string.E)) : HintOk Try.prog { (slices_ContainsFunc_SLstring_string.E) with gv := [fnE [.one (.str)] [.one (.bool)] f] } (bodyOf Try.f109) (.a) := HintOk.n1 (Q := True) (by kernel_rfl) trivial
theorem slices_ContainsFunc_SLstring_string.hE : EOk Try.prog (slices_ContainsFunc_SLstring_string.E) := EOk.of ttOk (⟨slices_IndexFunc_SLstring_string.fok, trivial⟩)
theorem slices_ContainsFunc_SLstring_string.fok : FOk Try.prog 109 slices_ContainsFunc_SLstring_string.fi :=
  fokS (E := slices_ContainsFunc_SLstring_string.E) (wy := ⟨[[none]], [[], []], []⟩) (h := (fun gs => let f := fnP [.one (.str)] [.one (.bool)] (gN 0 gs); .a)) (G := fun t g => slices_ContainsFunc_SLstring_string.F (fun y0 => g y0) t.1 t.2.1) (by kernel_rfl) slices_ContainsFunc_SLstring_string.hE Try.func109 (by kernel_rfl) rfl (Nat.le_refl _) (fun t => HintOk.n1 (by kernel_rfl) (slices_ContainsFunc_SLstring_string.hok t.2.1 slices_ContainsFunc_SLstring_string.hE)) (fun t g => slices_ContainsFunc_SLstring_string_nat g t.1 t.2.1) (fun t => by kernel_rfl)
/-! loop.example_g00220_impl.isText$1 -/
def i_isText_1.F {R : Type} (kk : Bool → Option R) (t_ : ByteArray) : Option R :=
  kk (decide ((ByteArray.size t_ : Int) > (65536 : Int)))
theorem i_isText_1.F_nat {R S : Type} (g : R → Option S) (kk : Bool → Option R) (t_ : ByteArray) : i_isText_1.F (fun y0 => (kk y0).bind g) t_ = (i_isText_1.F kk t_).bind g := by
  simp only [i_isText_1.F, grd_bind, cnd_bind, bnd_bind, non_bind]
def i_isText_1 (t_ : ByteArray) : Option Bool := i_isText_1.F (fun y0 => some y0) t_
theorem i_isText_1_nat {S : Type} (g : Bool → Option S) (t_ : ByteArray) : i_isText_1.F (fun y0 => g y0) t_ = (i_isText_1 t_).bind g := i_isText_1.F_nat g (fun y0 => some y0) t_
def i_isText_1.out : Bool → CRes := fun a => ⟨encL SV.enc [.one (.bool)] (a, ()), [encL SC.enc [] ()]⟩
def i_isText_1.ps : List PS := [.val [none]]
def i_isText_1.sA : List SA := [.v (.one (.str))]
def i_isText_1.fi : FI := FIs i_isText_1.sA (Bool) (fun t => i_isText_1 t.1) i_isText_1.out i_isText_1.ps
def i_isText_1.E : Env := ⟨tt, lkF [], 6, 0, [], []⟩
theorem i_isText_1.hok (hE : EOk Try.prog (i_isText_1.E)) : HintOk Try.prog i_isText_1.E (bodyOf Try.f117) (.a) := HintOk.n1 (Q := True) (by kernel_rfl) trivial
theorem i_isText_1.hE : EOk Try.prog (i_isText_1.E) := EOk.of ttOk (trivial)
theorem i_isText_1.fok : FOk Try.prog 117 i_isText_1.fi :=
  fokS (E := i_isText_1.E) (wy := ⟨[[none]], [[]], []⟩) (h := (fun gs => .a)) (G := fun t g => i_isText_1.F (fun y0 => g y0) t.1) (by kernel_rfl) i_isText_1.hE Try.func117 (by kernel_rfl) rfl (Nat.le_refl _) (fun t => HintOk.n1 (by kernel_rfl) (i_isText_1.hok i_isText_1.hE)) (fun t g => i_isText_1_nat g t.1) (fun t => by kernel_rfl)
/-! loop.example_g00220_impl.isText -/
def i_isText.F {R : Type} (kk : Bool → Option R) (texts : List ByteArray) : Option R :=
  (slices_ContainsFunc_SLstring_string texts (fun t => (i_isText_1 t.1).bind fun a => some (a, ()))).bind fun r =>
  kk (!r)
theorem i_isText.F_nat {R S : Type} (g : R → Option S) (kk : Bool → Option R) (texts : List ByteArray) : i_isText.F (fun y0 => (kk y0).bind g) texts = (i_isText.F kk texts).bind g := by
  simp only [i_isText.F, grd_bind, cnd_bind, bnd_bind, non_bind]
def i_isText (texts : List ByteArray) : Option Bool := i_isText.F (fun y0 => some y0) texts
theorem i_isText_nat {S : Type} (g : Bool → Option S) (texts : List ByteArray) : i_isText.F (fun y0 => g y0) texts = (i_isText texts).bind g := i_isText.F_nat g (fun y0 => some y0) texts
def i_isText.out : Bool → CRes := fun a => ⟨encL SV.enc [.one (.bool)] (a, ()), [encL SC.enc [] ()]⟩
def i_isText.ps : List PS := [.val [some (.str, false)]]
def i_isText.sA : List SA := [.v (.one (.slv [] .str))]
def i_isText.fi : FI := FIs i_isText.sA (Bool) (fun t => i_isText t.1) i_isText.out i_isText.ps
def i_isText.E : Env := ⟨tt, lkF [(109, slices_ContainsFunc_SLstring_string.fi), (117, i_isText_1.fi)], 6, 0, [], []⟩
theorem i_isText.hok (hE : EOk Try.prog (i_isText.E)) : HintOk Try.prog i_isText.E (bodyOf Try.f71) (.a) := HintOk.n1 (Q := True) (by kernel_rfl) trivial
theorem i_isText.hE : EOk Try.prog (i_isText.E) := EOk.of ttOk (⟨slices_ContainsFunc_SLstring_string.fok, ⟨i_isText_1.fok, trivial⟩⟩)
theorem i_isText.fok : FOk Try.prog 71 i_isText.fi :=
  fokS (E := i_isText.E) (wy := ⟨[[none]], [[]], []⟩) (h := (fun gs => .a)) (G := fun t g => i_isText.F (fun y0 => g y0) t.1) (by kernel_rfl) i_isText.hE Try.func71 (by kernel_rfl) rfl (Nat.le_refl _) (fun t => HintOk.n1 (by kernel_rfl) (i_isText.hok i_isText.hE)) (fun t g => i_isText_nat g t.1) (fun t => by kernel_rfl)
/-! loop.example_g00220_impl.isHash$1 -/
def i_isHash_1.F {R : Type} (kk : Bool → Option R) (t_ : ByteArray) : Option R :=
  kk ((ByteArray.size t_ : Int) != (32 : Int))
theorem i_isHash_1.F_nat {R S : Type} (g : R → Option S) (kk : Bool → Option R) (t_ : ByteArray) : i_isHash_1.F (fun y0 => (kk y0).bind g) t_ = (i_isHash_1.F kk t_).bind g := by
  simp only [i_isHash_1.F, grd_bind, cnd_bind, bnd_bind, non_bind]
def i_isHash_1 (t_ : ByteArray) : Option Bool := i_isHash_1.F (fun y0 => some y0) t_
theorem i_isHash_1_nat {S : Type} (g : Bool → Option S) (t_ : ByteArray) : i_isHash_1.F (fun y0 => g y0) t_ = (i_isHash_1 t_).bind g := i_isHash_1.F_nat g (fun y0 => some y0) t_
def i_isHash_1.out : Bool → CRes := fun a => ⟨encL SV.enc [.one (.bool)] (a, ()), [encL SC.enc [] ()]⟩
def i_isHash_1.ps : List PS := [.val [none]]
def i_isHash_1.sA : List SA := [.v (.one (.str))]
def i_isHash_1.fi : FI := FIs i_isHash_1.sA (Bool) (fun t => i_isHash_1 t.1) i_isHash_1.out i_isHash_1.ps
def i_isHash_1.E : Env := ⟨tt, lkF [], 6, 0, [], []⟩
theorem i_isHash_1.hok (hE : EOk Try.prog (i_isHash_1.E)) : HintOk Try.prog i_isHash_1.E (bodyOf Try.f146) (.a) := HintOk.n1 (Q := True) (by kernel_rfl) trivial
theorem i_isHash_1.hE : EOk Try.prog (i_isHash_1.E) := EOk.of ttOk (trivial)
theorem i_isHash_1.fok : FOk Try.prog 146 i_isHash_1.fi :=
  fokS (E := i_isHash_1.E) (wy := ⟨[[none]], [[]], []⟩) (h := (fun gs => .a)) (G := fun t g => i_isHash_1.F (fun y0 => g y0) t.1) (by kernel_rfl) i_isHash_1.hE Try.func146 (by kernel_rfl) rfl (Nat.le_refl _) (fun t => HintOk.n1 (by kernel_rfl) (i_isHash_1.hok i_isHash_1.hE)) (fun t g => i_isHash_1_nat g t.1) (fun t => by kernel_rfl)
/-! loop.example_g00220_impl.isHash -/
def i_isHash.F {R : Type} (kk : Bool → Option R) (texts : List ByteArray) : Option R :=
  (slices_ContainsFunc_SLstring_string texts (fun t => (i_isHash_1 t.1).bind fun a => some (a, ()))).bind fun r =>
  kk (!r)
theorem i_isHash.F_nat {R S : Type} (g : R → Option S) (kk : Bool → Option R) (texts : List ByteArray) : i_isHash.F (fun y0 => (kk y0).bind g) texts = (i_isHash.F kk texts).bind g := by
  simp only [i_isHash.F, grd_bind, cnd_bind, bnd_bind, non_bind]
def i_isHash (texts : List ByteArray) : Option Bool := i_isHash.F (fun y0 => some y0) texts
theorem i_isHash_nat {S : Type} (g : Bool → Option S) (texts : List ByteArray) : i_isHash.F (fun y0 => g y0) texts = (i_isHash texts).bind g := i_isHash.F_nat g (fun y0 => some y0) texts
def i_isHash.out : Bool → CRes := fun a => ⟨encL SV.enc [.one (.bool)] (a, ()), [encL SC.enc [] ()]⟩
def i_isHash.ps : List PS := [.val [some (.str, false)]]
def i_isHash.sA : List SA := [.v (.one (.slv [] .str))]
def i_isHash.fi : FI := FIs i_isHash.sA (Bool) (fun t => i_isHash t.1) i_isHash.out i_isHash.ps
def i_isHash.E : Env := ⟨tt, lkF [(109, slices_ContainsFunc_SLstring_string.fi), (146, i_isHash_1.fi)], 6, 0, [], []⟩
theorem i_isHash.hok (hE : EOk Try.prog (i_isHash.E)) : HintOk Try.prog i_isHash.E (bodyOf Try.f118) (.a) := HintOk.n1 (Q := True) (by kernel_rfl) trivial
theorem i_isHash.hE : EOk Try.prog (i_isHash.E) := EOk.of ttOk (⟨slices_ContainsFunc_SLstring_string.fok, ⟨i_isHash_1.fok, trivial⟩⟩)
theorem i_isHash.fok : FOk Try.prog 118 i_isHash.fi :=
  fokS (E := i_isHash.E) (wy := ⟨[[none]], [[]], []⟩) (h := (fun gs => .a)) (G := fun t g => i_isHash.F (fun y0 => g y0) t.1) (by kernel_rfl) i_isHash.hE Try.func118 (by kernel_rfl) rfl (Nat.le_refl _) (fun t => HintOk.n1 (by kernel_rfl) (i_isHash.hok i_isHash.hE)) (fun t g => i_isHash_nat g t.1) (fun t => by kernel_rfl)
/-! loop.example_g00220_impl.proofCode -/
def i_proofCode.j1 {R : Type} (kkn : List ByteArray → List ByteArray → Bool → Option R) (proof : List ByteArray) (hashes : List ByteArray) : Option R :=
  (i_isList_string proof).bind fun r =>
  cond (!r) (kkn proof hashes true) (
    (i_isText hashes).bind fun r1 =>
    kkn proof hashes (!r1))
theorem i_proofCode.j1_nat {R S : Type} (g : R → Option S) (kkn : List ByteArray → List ByteArray → Bool → Option R) (proof : List ByteArray) (hashes : List ByteArray) : i_proofCode.j1 (fun y0 y1 y2 => (kkn y0 y1 y2).bind g) proof hashes = (i_proofCode.j1 kkn proof hashes).bind g := by
  simp only [i_proofCode.j1, grd_bind, cnd_bind, bnd_bind, non_bind]
def i_proofCode.F {R : Type} (kk : Int → Option R) (proof : List ByteArray) (hashes : List ByteArray) : Option R :=
  i_proofCode.j1 (fun proof1 hashes1 b =>
    cond (b) (kk (2 : Int)) (
      (i_isHash hashes1).bind fun r =>
      cond (!r) (kk (1 : Int)) (
        cond (decide ((List.length proof1 : Int) > (64 : Int))) (kk (1 : Int)) (
          (i_isHash proof1).bind fun r1 =>
          cond (!r1) (kk (1 : Int)) (kk (0 : Int)))))) proof hashes
theorem i_proofCode.F_nat {R S : Type} (g : R → Option S) (kk : Int → Option R) (proof : List ByteArray) (hashes : List ByteArray) : i_proofCode.F (fun y0 => (kk y0).bind g) proof hashes = (i_proofCode.F kk proof hashes).bind g := by
  simp only [i_proofCode.F, grd_bind, cnd_bind, bnd_bind, non_bind, ← i_proofCode.j1_nat]
def i_proofCode (proof : List ByteArray) (hashes : List ByteArray) : Option Int := i_proofCode.F (fun y0 => some y0) proof hashes
theorem i_proofCode_nat {S : Type} (g : Int → Option S) (proof : List ByteArray) (hashes : List ByteArray) : i_proofCode.F (fun y0 => g y0) proof hashes = (i_proofCode proof hashes).bind g := i_proofCode.F_nat g (fun y0 => some y0) proof hashes
def i_proofCode.out : Int → CRes := fun a => ⟨encL SV.enc [.one (.int .i64)] (a, ()), [encL SC.enc [] (), encL SC.enc [] ()]⟩
def i_proofCode.ps : List PS := [.val [some (.str, false)], .val [some (.str, false)]]
def i_proofCode.sA : List SA := [.v (.one (.slv [] .str)), .v (.one (.slv [] .str))]
def i_proofCode.fi : FI := FIs i_proofCode.sA (Int) (fun t => i_proofCode t.1 t.2.1) i_proofCode.out i_proofCode.ps
def i_proofCode.E : Env := ⟨tt, lkF [(62, i_isList_string.fi), (71, i_isText.fi), (118, i_isHash.fi)], 28, 0, [], []⟩
def i_proofCode.sh1 : SK := ⟨[.v (.one (.slv [1] .str)), .v (.one (.slv [2] .str))], []⟩
def i_proofCode.sh1n : SK := ⟨[.v (.one (.slv [1] .str)), .v (.one (.slv [2] .str)), .v (.one (.bool))], []⟩
def i_proofCode.ko1 : Ex → List CastAt × List Nat
  | .nrm => ([], [0, 1, 5])
  | .ret => ([], [])
  | .ext i => ([], [])
def i_proofCode.G1 (R : Type) (t : i_proofCode.sh1.T) (K : Ex → Kp → Option R) : Option R := i_proofCode.j1 (fun y0 y1 y2 => K .nrm (SK.enc i_proofCode.sh1n ((y0, y1, y2, ()), ()))) t.1.1 t.1.2.1
def i_proofCode.S1 : Sum := ⟨([], [0, 1]), sumF i_proofCode.sh1 (i_proofCode.G1), i_proofCode.ko1⟩
theorem i_proofCode.ok1 (hE : EOk Try.prog (i_proofCode.E)) : SumOk Try.prog i_proofCode.E (cL (cB (cL (cR (bodyOf Try.f72))))) (i_proofCode.S1) := by
  have hh : HintOk Try.prog i_proofCode.E (cL (cB (cL (cR (bodyOf Try.f72))))) (.a) := HintOk.n1 (Q := True) (by kernel_rfl) trivial
  exact sumS (kin := ([], [0, 1])) (kout := i_proofCode.ko1) (sh := i_proofCode.sh1) (F := i_proofCode.G1) (ops_ok (hE.gv _)) (by kernel_rfl) hh (fun R t K => by kernel_rfl)
theorem i_proofCode.hok (hE : EOk Try.prog (i_proofCode.E)) : HintOk Try.prog i_proofCode.E (bodyOf Try.f72) (.n (.a) (.n (.b (.n (.s (i_proofCode.S1)) (.a))) (.a))) := HintOk.n1 (Q := (True) ∧ (((SumOk Try.prog i_proofCode.E (cL (cB (cL (cR (bodyOf Try.f72))))) (i_proofCode.S1)) ∧ (True)) ∧ (True))) (by kernel_rfl) ⟨trivial, ⟨⟨(i_proofCode.ok1 hE), trivial⟩, trivial⟩⟩
theorem i_proofCode.hE : EOk Try.prog (i_proofCode.E) := EOk.of ttOk (⟨i_isList_string.fok, ⟨i_isText.fok, ⟨i_isHash.fok, trivial⟩⟩⟩)
theorem i_proofCode.fok : FOk Try.prog 72 i_proofCode.fi :=
  fokS (E := i_proofCode.E) (wy := ⟨[[none]], [[], []], []⟩) (h := (fun gs => .n (.a) (.n (.b (.n (.s (i_proofCode.S1)) (.a))) (.a)))) (G := fun t g => i_proofCode.F (fun y0 => g y0) t.1 t.2.1) (by kernel_rfl) i_proofCode.hE Try.func72 (by kernel_rfl) rfl (Nat.le_refl _) (fun t => HintOk.n1 (by kernel_rfl) (i_proofCode.hok i_proofCode.hE)) (fun t g => i_proofCode_nat g t.1 t.2.1) (fun t => by kernel_rfl)
/-! loop.example_g00220_impl.within -/
def i_within.F {R : Type} (kk : Bool → Option R) (n_ : Int) (low : Int) (high : Int) : Option R :=
  cond (decide (n_ ≥ low)) (kk (decide (n_ ≤ high))) (kk false)
theorem i_within.F_nat {R S : Type} (g : R → Option S) (kk : Bool → Option R) (n_ : Int) (low : Int) (high : Int) : i_within.F (fun y0 => (kk y0).bind g) n_ low high = (i_within.F kk n_ low high).bind g := by
  simp only [i_within.F, grd_bind, cnd_bind, bnd_bind, non_bind]
def i_within (n_ : Int) (low : Int) (high : Int) : Option Bool := i_within.F (fun y0 => some y0) n_ low high
theorem i_within_nat {S : Type} (g : Bool → Option S) (n_ : Int) (low : Int) (high : Int) : i_within.F (fun y0 => g y0) n_ low high = (i_within n_ low high).bind g := i_within.F_nat g (fun y0 => some y0) n_ low high
def i_within.out : Bool → CRes := fun a => ⟨encL SV.enc [.one (.bool)] (a, ()), [encL SC.enc [] (), encL SC.enc [] (), encL SC.enc [] ()]⟩
def i_within.ps : List PS := [.val [none], .val [none], .val [none]]
def i_within.sA : List SA := [.v (.one (.int .i64)), .v (.one (.int .i64)), .v (.one (.int .i64))]
def i_within.fi : FI := FIs i_within.sA (Bool) (fun t => i_within t.1 t.2.1 t.2.2.1) i_within.out i_within.ps
def i_within.E : Env := ⟨tt, lkF [], 15, 0, [], []⟩
theorem i_within.hok (hE : EOk Try.prog (i_within.E)) : HintOk Try.prog i_within.E (bodyOf Try.f79) (.a) := HintOk.n1 (Q := True) (by kernel_rfl) trivial
theorem i_within.hE : EOk Try.prog (i_within.E) := EOk.of ttOk (trivial)
theorem i_within.fok : FOk Try.prog 79 i_within.fi :=
  fokS (E := i_within.E) (wy := ⟨[[none]], [[], [], []], []⟩) (h := (fun gs => .a)) (G := fun t g => i_within.F (fun y0 => g y0) t.1 t.2.1 t.2.2.1) (by kernel_rfl) i_within.hE Try.func79 (by kernel_rfl) rfl (Nat.le_refl _) (fun t => HintOk.n1 (by kernel_rfl) (i_within.hok i_within.hE)) (fun t g => i_within_nat g t.1 t.2.1 t.2.2.1) (fun t => by kernel_rfl)
/-! loop.example_g00220_impl.split -/
def i_split.l1 {R : Type} (kke0 : Int → Option R) : Nat → Int → Int → Option R
  | 0, _, _ => none
  | n + 1, n_, k_ =>
    cond (decide ((IntKind.wrap .i64 ((2 : Int) * k_)) < n_)) (i_split.l1 kke0 n n_ (IntKind.wrap .i64 (k_ * (2 : Int)))) (kke0 k_)
theorem i_split.l1_nat {R S : Type} (g : R → Option S) (kke0 : Int → Option R) : ∀ (n : Nat) (n_ : Int) (k_ : Int), i_split.l1 (fun y0 => (kke0 y0).bind g) n n_ k_ = (i_split.l1 kke0 n n_ k_).bind g := by
  intro n
  induction n with
  | zero => intros; rfl
  | succ n ih => intros; simp only [i_split.l1, grd_bind, cnd_bind, bnd_bind, non_bind, ih]
def i_split.F {R : Type} (kk : Int → Option R) (n_ : Int) : Option R :=
  i_split.l1 (fun k_ => kk k_) fuel n_ (1 : Int)
theorem i_split.F_nat {R S : Type} (g : R → Option S) (kk : Int → Option R) (n_ : Int) : i_split.F (fun y0 => (kk y0).bind g) n_ = (i_split.F kk n_).bind g := by
  simp only [i_split.F, grd_bind, cnd_bind, bnd_bind, non_bind, ← i_split.l1_nat]
def i_split (n_ : Int) : Option Int := i_split.F (fun y0 => some y0) n_
theorem i_split_nat {S : Type} (g : Int → Option S) (n_ : Int) : i_split.F (fun y0 => g y0) n_ = (i_split n_).bind g := i_split.F_nat g (fun y0 => some y0) n_
def i_split.out : Int → CRes := fun a => ⟨encL SV.enc [.one (.int .i64)] (a, ()), [encL SC.enc [] ()]⟩
def i_split.ps : List PS := [.val [none]]
def i_split.sA : List SA := [.v (.one (.int .i64))]
def i_split.fi : FI := FIs i_split.sA (Int) (fun t => i_split t.1) i_split.out i_split.ps
def i_split.E : Env := ⟨tt, lkF [], 11, 0, [], []⟩
def i_split.sh1 : SK := ⟨[.v (.one (.int .i64)), .v (.one (.int .i64))], []⟩
def i_split.sh1e0 : SK := ⟨[.v (.one (.int .i64))], []⟩
def i_split.ko1 : Ex → List CastAt × List Nat
  | .nrm => ([], [])
  | .ret => ([], [])
  | .ext i => cond (Nat.beq i 0) ([], [3]) ([], [])
def i_split.G1 (n : Nat) (R : Type) (t : i_split.sh1.T) (K : Ex → Kp → Option R) : Option R := i_split.l1 (fun y0 => K (.ext 0) (SK.enc i_split.sh1e0 ((y0, ()), ()))) n t.1.1 t.1.2.1
def i_split.S1 : Sum := ⟨([], [0, 3]), sumF i_split.sh1 (i_split.G1 fuel), i_split.ko1⟩
theorem i_split.ok1 (hE : EOk Try.prog (i_split.E)) : SumOk Try.prog i_split.E (cB (cL (cR (cR (bodyOf Try.f147))))) (i_split.S1) := by
  have hh : HintOk Try.prog i_split.E (cB (cB (cL (cR (cR (bodyOf Try.f147)))))) (.a) := HintOk.n1 (Q := True) (by kernel_rfl) trivial
  have h := loopS (kin := ([], [0, 3])) (kout := i_split.ko1) (sh := i_split.sh1) (F := i_split.G1) (ops_ok (hE.gv _)) (by kernel_rfl) hh (fun _ _ _ => rfl) (fun n R t K => by kernel_rfl) fuel
  exact HintOk.n1 (c := (cB (cL (cR (cR (bodyOf Try.f147)))))) (h := .s (i_split.S1)) (P := Try.prog) (E := i_split.E) (by kernel_rfl) h
theorem i_split.hok (hE : EOk Try.prog (i_split.E)) : HintOk Try.prog i_split.E (bodyOf Try.f147) (.n (.a) (.n (.a) (.n (.b (.s (i_split.S1))) (.a)))) := HintOk.n1 (Q := (True) ∧ ((True) ∧ ((SumOk Try.prog i_split.E (cB (cL (cR (cR (bodyOf Try.f147))))) (i_split.S1)) ∧ (True)))) (by kernel_rfl) ⟨trivial, ⟨trivial, ⟨(i_split.ok1 hE), trivial⟩⟩⟩
theorem i_split.hE : EOk Try.prog (i_split.E) := EOk.of ttOk (trivial)
theorem i_split.fok : FOk Try.prog 147 i_split.fi :=
  fokS (E := i_split.E) (wy := ⟨[[none]], [[]], []⟩) (h := (fun gs => .n (.a) (.n (.a) (.n (.b (.s (i_split.S1))) (.a))))) (G := fun t g => i_split.F (fun y0 => g y0) t.1) (by kernel_rfl) i_split.hE Try.func147 (by kernel_rfl) rfl (Nat.le_refl _) (fun t => HintOk.n1 (by kernel_rfl) (i_split.hok i_split.hE)) (fun t g => i_split_nat g t.1) (fun t => by kernel_rfl)
/-! loop.example_g00220_impl.number -/
def i_number.l1 {R : Type} (kke0 : List Int → Option R) : Nat → Int → Int → List Int → Option R
  | 0, _, _, _ => none
  | n + 1, n_, i, out =>
    cond (decide (i ≥ (0 : Int))) (
      grd (gIx i (List.length out)) <|
      grd (gSh (8 : Int)) <|
      i_number.l1 kke0 n (iShr .i64 n_ (8 : Int)) (IntKind.wrap .i64 (i - (1 : Int))) (setE (.int .u8 : Kd) out (Int.toNat i) (IntKind.wrap .u8 n_))) (kke0 out)
theorem i_number.l1_nat {R S : Type} (g : R → Option S) (kke0 : List Int → Option R) : ∀ (n : Nat) (n_ : Int) (i : Int) (out : List Int), i_number.l1 (fun y0 => (kke0 y0).bind g) n n_ i out = (i_number.l1 kke0 n n_ i out).bind g := by
  intro n
  induction n with
  | zero => intros; rfl
  | succ n ih => intros; simp only [i_number.l1, grd_bind, cnd_bind, bnd_bind, non_bind, ih]
def i_number.F {R : Type} (kk : ByteArray → Option R) (n_ : Int) (many : Int) : Option R :=
  grd (gMk many many 1) <|
  i_number.l1 (fun out => kk (strL out)) fuel n_ (IntKind.wrap .i64 (many - (1 : Int))) (List.replicate (Int.toNat many) (0 : Int))
theorem i_number.F_nat {R S : Type} (g : R → Option S) (kk : ByteArray → Option R) (n_ : Int) (many : Int) : i_number.F (fun y0 => (kk y0).bind g) n_ many = (i_number.F kk n_ many).bind g := by
  simp only [i_number.F, grd_bind, cnd_bind, bnd_bind, non_bind, ← i_number.l1_nat]
def i_number (n_ : Int) (many : Int) : Option ByteArray := i_number.F (fun y0 => some y0) n_ many
theorem i_number_nat {S : Type} (g : ByteArray → Option S) (n_ : Int) (many : Int) : i_number.F (fun y0 => g y0) n_ many = (i_number n_ many).bind g := i_number.F_nat g (fun y0 => some y0) n_ many
def i_number.out : ByteArray → CRes := fun a => ⟨encL SV.enc [.one (.str)] (a, ()), [encL SC.enc [] (), encL SC.enc [] ()]⟩
def i_number.ps : List PS := [.val [none], .val [none]]
def i_number.sA : List SA := [.v (.one (.int .i64)), .v (.one (.int .i64))]
def i_number.fi : FI := FIs i_number.sA (ByteArray) (fun t => i_number t.1 t.2.1) i_number.out i_number.ps
def i_number.E : Env := ⟨tt, lkF [], 24, 0, [], []⟩
def i_number.sh1 : SK := ⟨[.v (.one (.int .i64)), .v (.one (.slo 0)), .v (.one (.int .i64))], [.arr (.int .u8) [] true]⟩
def i_number.sh1e0 : SK := ⟨[.v (.one (.slo 0))], [.arr (.int .u8) [] true]⟩
def i_number.ko1 : Ex → List CastAt × List Nat
  | .nrm => ([], [])
  | .ret => ([], [])
  | .ext i => cond (Nat.beq i 0) ([], [5]) ([], [])
def i_number.G1 (n : Nat) (R : Type) (t : i_number.sh1.T) (K : Ex → Kp → Option R) : Option R := i_number.l1 (fun y0 => K (.ext 0) (SK.enc i_number.sh1e0 (((), ()), (y0, ())))) n t.1.1 t.1.2.2.1 t.2.1
def i_number.S1 : Sum := ⟨([], [0, 5, 6]), sumF i_number.sh1 (i_number.G1 fuel), i_number.ko1⟩
theorem i_number.ok1 (hE : EOk Try.prog (i_number.E)) : SumOk Try.prog i_number.E (cB (cR (cL (cR (cR (bodyOf Try.f95)))))) (i_number.S1) := by
  have hh : HintOk Try.prog i_number.E (cB (cB (cR (cL (cR (cR (bodyOf Try.f95))))))) (.a) := HintOk.n1 (Q := True) (by kernel_rfl) trivial
  have h := loopS (kin := ([], [0, 5, 6])) (kout := i_number.ko1) (sh := i_number.sh1) (F := i_number.G1) (ops_ok (hE.gv _)) (by kernel_rfl) hh (fun _ _ _ => rfl) (fun n R t K => by kernel_rfl) fuel
  exact HintOk.n1 (c := (cB (cR (cL (cR (cR (bodyOf Try.f95))))))) (h := .s (i_number.S1)) (P := Try.prog) (E := i_number.E) (by kernel_rfl) h
theorem i_number.hok (hE : EOk Try.prog (i_number.E)) : HintOk Try.prog i_number.E (bodyOf Try.f95) (.n (.a) (.n (.a) (.n (.n (.a) (.b (.s (i_number.S1)))) (.a)))) := HintOk.n1 (Q := (True) ∧ ((True) ∧ (((True) ∧ (SumOk Try.prog i_number.E (cB (cR (cL (cR (cR (bodyOf Try.f95)))))) (i_number.S1))) ∧ (True)))) (by kernel_rfl) ⟨trivial, ⟨trivial, ⟨⟨trivial, (i_number.ok1 hE)⟩, trivial⟩⟩⟩
theorem i_number.hE : EOk Try.prog (i_number.E) := EOk.of ttOk (trivial)
theorem i_number.fok : FOk Try.prog 95 i_number.fi :=
  fokS (E := i_number.E) (wy := ⟨[[none]], [[], []], []⟩) (h := (fun gs => .n (.a) (.n (.a) (.n (.n (.a) (.b (.s (i_number.S1)))) (.a))))) (G := fun t g => i_number.F (fun y0 => g y0) t.1 t.2.1) (by kernel_rfl) i_number.hE Try.func95 (by kernel_rfl) rfl (Nat.le_refl _) (fun t => HintOk.n1 (by kernel_rfl) (i_number.hok i_number.hE)) (fun t g => i_number_nat g t.1 t.2.1) (fun t => by kernel_rfl)
/-! strings.Repeat -/
theorem rep_ex : ∃ f : (ByteArray → Nat → ByteArray) × (ByteArray → Int → Bool), f.1 = (fun s c => ⟨(Lib.repeatL s.data.toList c).toArray⟩) ∧ f.2 = (fun s n => decide (0 ≤ n ∧ n ≤ 9223372036854775807 ∧ s.size * n.toNat ≤ 140737488355328)) := ⟨(_, _), rfl, rfl⟩
/-- Chosen, so that the kernel does not unfold them. -/
noncomputable def repS : ByteArray → Nat → ByteArray := (Classical.choose rep_ex).1
noncomputable def gRep : ByteArray → Int → Bool := (Classical.choose rep_ex).2
theorem repS_eq (s : ByteArray) (c : Nat) : repS s c = ⟨(Lib.repeatL s.data.toList c).toArray⟩ := congrFun (congrFun (Classical.choose_spec rep_ex).1 s) c
theorem gRep_eq (s : ByteArray) (n : Int) : gRep s n = decide (0 ≤ n ∧ n ≤ 9223372036854775807 ∧ s.size * n.toNat ≤ 140737488355328) := congrFun (congrFun (Classical.choose_spec rep_ex).2 s) n
noncomputable def strings_Repeat.F {R : Type} (kk : ByteArray → Option R) (s : ByteArray) (n : Int) : Option R := grd (gRep s n) <| kk (repS s n.toNat)
theorem strings_Repeat_ex : ∃ f : ByteArray → Int → Option ByteArray, f = fun s n => strings_Repeat.F (fun y0 => some y0) s n := ⟨_, rfl⟩
noncomputable def strings_Repeat : ByteArray → Int → Option ByteArray := Classical.choose strings_Repeat_ex
theorem strings_Repeat_eq (s : ByteArray) (n : Int) : strings_Repeat s n = strings_Repeat.F (fun y0 => some y0) s n := congrFun (congrFun (Classical.choose_spec strings_Repeat_ex) s) n
def strings_Repeat.out : (ByteArray) → CRes := fun a => ⟨encL SV.enc [.one (.str)] (a, ()), [encL SC.enc [] (), encL SC.enc [] ()]⟩
def strings_Repeat.ps : List PS := [.val [none], .val [none]]
def strings_Repeat.sA : List SA := [.v (.one (.str)), .v (.one (.int .i64))]
noncomputable def strings_Repeat.fi : FI := FIs strings_Repeat.sA (ByteArray) (fun t => strings_Repeat t.1 t.2.1) strings_Repeat.out strings_Repeat.ps
theorem strings_Repeat.fok : FOk Try.prog 126 strings_Repeat.fi := by
  refine fok_ext ⟨_, _, Try.func126, by kernel_rfl, rfl⟩ (by kernel_rfl) (fun a => [.str a]) (fun a => by kernel_rfl) (fun a => by kernel_rfl) (fun t a h w => ?_)
  obtain ⟨s, n, u⟩ := t
  have h' : grd (gRep s n) (some (repS s n.toNat)) = some a := (strings_Repeat_eq s n).symm.trans h
  cases hg : gRep s n with
  | false => rw [hg] at h'; cases h'
  | true =>
    rw [hg] at h'
    obtain rfl := Option.some.inj h'
    rw [gRep_eq] at hg
    obtain ⟨h0, h1, h2⟩ := of_decide_eq_true hg
    rw [repS_eq]
    have := Try.strings_Repeat s n.toNat w (by omega) h2
    rw [Int.toNat_of_nonneg h0] at this
    exact this
/-! loop.example_g00220_impl.hashWords -/
def i_hashWords.F {R : Type} (kk : List Int → Option R) : Option R :=
  kk [(1779033703 : Int), (3144134277 : Int), (1013904242 : Int), (2773480762 : Int), (1359893119 : Int), (2600822924 : Int), (528734635 : Int), (1541459225 : Int)]
theorem i_hashWords.F_nat {R S : Type} (g : R → Option S) (kk : List Int → Option R) : i_hashWords.F (fun y0 => (kk y0).bind g) = (i_hashWords.F kk).bind g := by
  simp only [i_hashWords.F, grd_bind, cnd_bind, bnd_bind, non_bind]
theorem i_hashWords_ex : ∃ f : Option (List Int), f = i_hashWords.F (fun y0 => some y0) := ⟨_, rfl⟩
/-- Chosen, so that the kernel does not unfold it. -/
noncomputable def i_hashWords : Option (List Int) := Classical.choose i_hashWords_ex
theorem i_hashWords_eq : i_hashWords = i_hashWords.F (fun y0 => some y0) := (Classical.choose_spec i_hashWords_ex)
theorem i_hashWords_nat {S : Type} (g : (List Int) → Option S) : i_hashWords.F (fun y0 => g y0) = (i_hashWords).bind g := by
  rw [i_hashWords_eq]
  exact i_hashWords.F_nat g (fun y0 => some y0)
def i_hashWords.out : (List Int) → CRes := fun a => ⟨encL SV.enc [.vec 8 (.int .u32)] (a, ()), []⟩
def i_hashWords.ps : List PS := []
def i_hashWords.sA : List SA := []
def i_hashWords.fi : FI := FIs i_hashWords.sA (List Int) (fun t => i_hashWords) i_hashWords.out i_hashWords.ps
def i_hashWords.E : Env := ⟨tt, lkF [], 2, 0, [], []⟩
theorem i_hashWords.hok (hE : EOk Try.prog (i_hashWords.E)) : HintOk Try.prog i_hashWords.E (bodyOf Try.f127) (.a) := HintOk.n1 (Q := True) (by kernel_rfl) trivial
theorem i_hashWords.hE : EOk Try.prog (i_hashWords.E) := EOk.of ttOk (trivial)
theorem i_hashWords.fok : FOk Try.prog 127 i_hashWords.fi :=
  fokS (E := i_hashWords.E) (wy := ⟨[[]], [], []⟩) (h := (fun gs => .a)) (G := fun t g => i_hashWords.F (fun y0 => g y0)) (by kernel_rfl) i_hashWords.hE Try.func127 (by kernel_rfl) rfl (Nat.le_refl _) (fun t => HintOk.n1 (by kernel_rfl) (i_hashWords.hok i_hashWords.hE)) (fun t g => i_hashWords_nat g) (fun t => by kernel_rfl)
/-! loop.example_g00220_impl.roundWords -/
def i_roundWords.F {R : Type} (kk : List Int → Option R) : Option R :=
  kk [(1116352408 : Int), (1899447441 : Int), (3049323471 : Int), (3921009573 : Int), (961987163 : Int), (1508970993 : Int), (2453635748 : Int), (2870763221 : Int), (3624381080 : Int), (310598401 : Int), (607225278 : Int), (1426881987 : Int), (1925078388 : Int), (2162078206 : Int), (2614888103 : Int), (3248222580 : Int), (3835390401 : Int), (4022224774 : Int), (264347078 : Int), (604807628 : Int), (770255983 : Int), (1249150122 : Int), (1555081692 : Int), (1996064986 : Int), (2554220882 : Int), (2821834349 : Int), (2952996808 : Int), (3210313671 : Int), (3336571891 : Int), (3584528711 : Int), (113926993 : Int), (338241895 : Int), (666307205 : Int), (773529912 : Int), (1294757372 : Int), (1396182291 : Int), (1695183700 : Int), (1986661051 : Int), (2177026350 : Int), (2456956037 : Int), (2730485921 : Int), (2820302411 : Int), (3259730800 : Int), (3345764771 : Int), (3516065817 : Int), (3600352804 : Int), (4094571909 : Int), (275423344 : Int), (430227734 : Int), (506948616 : Int), (659060556 : Int), (883997877 : Int), (958139571 : Int), (1322822218 : Int), (1537002063 : Int), (1747873779 : Int), (1955562222 : Int), (2024104815 : Int), (2227730452 : Int), (2361852424 : Int), (2428436474 : Int), (2756734187 : Int), (3204031479 : Int), (3329325298 : Int)]
theorem i_roundWords.F_nat {R S : Type} (g : R → Option S) (kk : List Int → Option R) : i_roundWords.F (fun y0 => (kk y0).bind g) = (i_roundWords.F kk).bind g := by
  simp only [i_roundWords.F, grd_bind, cnd_bind, bnd_bind, non_bind]
theorem i_roundWords_ex : ∃ f : Option (List Int), f = i_roundWords.F (fun y0 => some y0) := ⟨_, rfl⟩
/-- Chosen, so that the kernel does not unfold it. -/
noncomputable def i_roundWords : Option (List Int) := Classical.choose i_roundWords_ex
theorem i_roundWords_eq : i_roundWords = i_roundWords.F (fun y0 => some y0) := (Classical.choose_spec i_roundWords_ex)
theorem i_roundWords_nat {S : Type} (g : (List Int) → Option S) : i_roundWords.F (fun y0 => g y0) = (i_roundWords).bind g := by
  rw [i_roundWords_eq]
  exact i_roundWords.F_nat g (fun y0 => some y0)
def i_roundWords.out : (List Int) → CRes := fun a => ⟨encL SV.enc [.vec 64 (.int .u32)] (a, ()), []⟩
def i_roundWords.ps : List PS := []
def i_roundWords.sA : List SA := []
def i_roundWords.fi : FI := FIs i_roundWords.sA (List Int) (fun t => i_roundWords) i_roundWords.out i_roundWords.ps
def i_roundWords.E : Env := ⟨tt, lkF [], 2, 0, [], []⟩
theorem i_roundWords.hok (hE : EOk Try.prog (i_roundWords.E)) : HintOk Try.prog i_roundWords.E (bodyOf Try.f128) (.a) := HintOk.n1 (Q := True) (by kernel_rfl) trivial
theorem i_roundWords.hE : EOk Try.prog (i_roundWords.E) := EOk.of ttOk (trivial)
theorem i_roundWords.fok : FOk Try.prog 128 i_roundWords.fi :=
  fokS (E := i_roundWords.E) (wy := ⟨[[]], [], []⟩) (h := (fun gs => .a)) (G := fun t g => i_roundWords.F (fun y0 => g y0)) (by kernel_rfl) i_roundWords.hE Try.func128 (by kernel_rfl) rfl (Nat.le_refl _) (fun t => HintOk.n1 (by kernel_rfl) (i_roundWords.hok i_roundWords.hE)) (fun t g => i_roundWords_nat g) (fun t => by kernel_rfl)
/-! math_bits.RotateLeft32 -/
def math_bits_RotateLeft32.F {R : Type} (kk : Int → Option R) (x : Int) (k_ : Int) : Option R :=
  grd (gSh (iAnd .u64 (IntKind.wrap .u64 k_) (31 : Int))) <|
  grd (gSh (IntKind.wrap .u64 ((32 : Int) - (iAnd .u64 (IntKind.wrap .u64 k_) (31 : Int))))) <|
  kk (iOr .u32 (iShl .u32 x (iAnd .u64 (IntKind.wrap .u64 k_) (31 : Int))) (iShr .u32 x (IntKind.wrap .u64 ((32 : Int) - (iAnd .u64 (IntKind.wrap .u64 k_) (31 : Int))))))
theorem math_bits_RotateLeft32.F_nat {R S : Type} (g : R → Option S) (kk : Int → Option R) (x : Int) (k_ : Int) : math_bits_RotateLeft32.F (fun y0 => (kk y0).bind g) x k_ = (math_bits_RotateLeft32.F kk x k_).bind g := by
  simp only [math_bits_RotateLeft32.F, grd_bind, cnd_bind, bnd_bind, non_bind]
def math_bits_RotateLeft32 (x : Int) (k_ : Int) : Option Int := math_bits_RotateLeft32.F (fun y0 => some y0) x k_
theorem math_bits_RotateLeft32_nat {S : Type} (g : Int → Option S) (x : Int) (k_ : Int) : math_bits_RotateLeft32.F (fun y0 => g y0) x k_ = (math_bits_RotateLeft32 x k_).bind g := math_bits_RotateLeft32.F_nat g (fun y0 => some y0) x k_
def math_bits_RotateLeft32.out : Int → CRes := fun a => ⟨encL SV.enc [.one (.int .u32)] (a, ()), [encL SC.enc [] (), encL SC.enc [] ()]⟩
def math_bits_RotateLeft32.ps : List PS := [.val [none], .val [none]]
def math_bits_RotateLeft32.sA : List SA := [.v (.one (.int .u32)), .v (.one (.int .i64))]
def math_bits_RotateLeft32.fi : FI := FIs math_bits_RotateLeft32.sA (Int) (fun t => math_bits_RotateLeft32 t.1 t.2.1) math_bits_RotateLeft32.out math_bits_RotateLeft32.ps
def math_bits_RotateLeft32.E : Env := ⟨tt, lkF [], 17, 0, [], []⟩
theorem math_bits_RotateLeft32.hok (hE : EOk Try.prog (math_bits_RotateLeft32.E)) : HintOk Try.prog math_bits_RotateLeft32.E (bodyOf Try.f175) (.a) := HintOk.n1 (Q := True) (by kernel_rfl) trivial
theorem math_bits_RotateLeft32.hE : EOk Try.prog (math_bits_RotateLeft32.E) := EOk.of ttOk (trivial)
theorem math_bits_RotateLeft32.fok : FOk Try.prog 175 math_bits_RotateLeft32.fi :=
  fokS (E := math_bits_RotateLeft32.E) (wy := ⟨[[none]], [[], []], []⟩) (h := (fun gs => .a)) (G := fun t g => math_bits_RotateLeft32.F (fun y0 => g y0) t.1 t.2.1) (by kernel_rfl) math_bits_RotateLeft32.hE Try.func175 (by kernel_rfl) rfl (Nat.le_refl _) (fun t => HintOk.n1 (by kernel_rfl) (math_bits_RotateLeft32.hok math_bits_RotateLeft32.hE)) (fun t g => math_bits_RotateLeft32_nat g t.1 t.2.1) (fun t => by kernel_rfl)
/-! loop.example_g00220_impl.turned -/
def i_turned.F {R : Type} (kk : Int → Option R) (x : Int) (by_ : Int) : Option R :=
  (math_bits_RotateLeft32 x (IntKind.wrap .i64 (0 - by_))).bind fun r =>
  kk r
theorem i_turned.F_nat {R S : Type} (g : R → Option S) (kk : Int → Option R) (x : Int) (by_ : Int) : i_turned.F (fun y0 => (kk y0).bind g) x by_ = (i_turned.F kk x by_).bind g := by
  simp only [i_turned.F, grd_bind, cnd_bind, bnd_bind, non_bind]
def i_turned (x : Int) (by_ : Int) : Option Int := i_turned.F (fun y0 => some y0) x by_
theorem i_turned_nat {S : Type} (g : Int → Option S) (x : Int) (by_ : Int) : i_turned.F (fun y0 => g y0) x by_ = (i_turned x by_).bind g := i_turned.F_nat g (fun y0 => some y0) x by_
def i_turned.out : Int → CRes := fun a => ⟨encL SV.enc [.one (.int .u32)] (a, ()), [encL SC.enc [] (), encL SC.enc [] ()]⟩
def i_turned.ps : List PS := [.val [none], .val [none]]
def i_turned.sA : List SA := [.v (.one (.int .u32)), .v (.one (.int .i64))]
def i_turned.fi : FI := FIs i_turned.sA (Int) (fun t => i_turned t.1 t.2.1) i_turned.out i_turned.ps
def i_turned.E : Env := ⟨tt, lkF [(175, math_bits_RotateLeft32.fi)], 9, 0, [], []⟩
theorem i_turned.hok (hE : EOk Try.prog (i_turned.E)) : HintOk Try.prog i_turned.E (bodyOf Try.f159) (.a) := HintOk.n1 (Q := True) (by kernel_rfl) trivial
theorem i_turned.hE : EOk Try.prog (i_turned.E) := EOk.of ttOk (⟨math_bits_RotateLeft32.fok, trivial⟩)
theorem i_turned.fok : FOk Try.prog 159 i_turned.fi :=
  fokS (E := i_turned.E) (wy := ⟨[[none]], [[], []], []⟩) (h := (fun gs => .a)) (G := fun t g => i_turned.F (fun y0 => g y0) t.1 t.2.1) (by kernel_rfl) i_turned.hE Try.func159 (by kernel_rfl) rfl (Nat.le_refl _) (fun t => HintOk.n1 (by kernel_rfl) (i_turned.hok i_turned.hE)) (fun t g => i_turned_nat g t.1 t.2.1) (fun t => by kernel_rfl)
/-! loop.example_g00220_impl.wordsOf -/
def i_wordsOf.l1 {R : Type} (kke0 : List Int → List Int → Option R) : Nat → ByteArray → Int → List Int → List Int → Option R
  | 0, _, _, _, _ => none
  | n + 1, block, i, l, w =>
    cond (decide (i < (64 : Int))) (
      cond (decide (i < (16 : Int))) (
        grd (gIx (IntKind.wrap .i64 ((4 : Int) * i)) (ByteArray.size block)) <|
        grd (gSh (24 : Int)) <|
        grd (gIx (IntKind.wrap .i64 ((IntKind.wrap .i64 ((4 : Int) * i)) + (1 : Int))) (ByteArray.size block)) <|
        grd (gSh (16 : Int)) <|
        grd (gIx (IntKind.wrap .i64 ((IntKind.wrap .i64 ((4 : Int) * i)) + (2 : Int))) (ByteArray.size block)) <|
        grd (gSh (8 : Int)) <|
        grd (gIx (IntKind.wrap .i64 ((IntKind.wrap .i64 ((4 : Int) * i)) + (3 : Int))) (ByteArray.size block)) <|
        grd (gIx i 64) <|
        i_wordsOf.l1 kke0 n block (IntKind.wrap .i64 (i + (1 : Int))) l (setE (.int .u32 : Kd) w (Int.toNat i) (iOr .u32 (iOr .u32 (iOr .u32 (iShl .u32 (IntKind.wrap .u32 (byteAt block (IntKind.wrap .i64 ((4 : Int) * i)))) (24 : Int)) (iShl .u32 (IntKind.wrap .u32 (byteAt block (IntKind.wrap .i64 ((IntKind.wrap .i64 ((4 : Int) * i)) + (1 : Int))))) (16 : Int))) (iShl .u32 (IntKind.wrap .u32 (byteAt block (IntKind.wrap .i64 ((IntKind.wrap .i64 ((4 : Int) * i)) + (2 : Int))))) (8 : Int))) (IntKind.wrap .u32 (byteAt block (IntKind.wrap .i64 ((IntKind.wrap .i64 ((4 : Int) * i)) + (3 : Int)))))))) (
        grd (gIx (IntKind.wrap .i64 (i - (15 : Int))) 64) <|
        grd (gIx (IntKind.wrap .i64 (i - (2 : Int))) 64) <|
        (i_turned (rdE (.int .u32 : Kd) w (Int.toNat (IntKind.wrap .i64 (i - (15 : Int))))) (7 : Int)).bind fun r =>
        (i_turned (rdE (.int .u32 : Kd) w (Int.toNat (IntKind.wrap .i64 (i - (15 : Int))))) (18 : Int)).bind fun r1 =>
        grd (gSh (3 : Int)) <|
        (i_turned (rdE (.int .u32 : Kd) w (Int.toNat (IntKind.wrap .i64 (i - (2 : Int))))) (17 : Int)).bind fun r2 =>
        (i_turned (rdE (.int .u32 : Kd) w (Int.toNat (IntKind.wrap .i64 (i - (2 : Int))))) (19 : Int)).bind fun r3 =>
        grd (gSh (10 : Int)) <|
        grd (gIx (IntKind.wrap .i64 (i - (16 : Int))) 64) <|
        grd (gIx (IntKind.wrap .i64 (i - (7 : Int))) 64) <|
        grd (gIx i 64) <|
        i_wordsOf.l1 kke0 n block (IntKind.wrap .i64 (i + (1 : Int))) l (setE (.int .u32 : Kd) w (Int.toNat i) (IntKind.wrap .u32 ((IntKind.wrap .u32 ((IntKind.wrap .u32 ((rdE (.int .u32 : Kd) w (Int.toNat (IntKind.wrap .i64 (i - (16 : Int))))) + (iXor .u32 (iXor .u32 r r1) (iShr .u32 (rdE (.int .u32 : Kd) w (Int.toNat (IntKind.wrap .i64 (i - (15 : Int))))) (3 : Int))))) + (rdE (.int .u32 : Kd) w (Int.toNat (IntKind.wrap .i64 (i - (7 : Int))))))) + (iXor .u32 (iXor .u32 r2 r3) (iShr .u32 (rdE (.int .u32 : Kd) w (Int.toNat (IntKind.wrap .i64 (i - (2 : Int))))) (10 : Int)))))))) (kke0 l w)
theorem i_wordsOf.l1_nat {R S : Type} (g : R → Option S) (kke0 : List Int → List Int → Option R) : ∀ (n : Nat) (block : ByteArray) (i : Int) (l : List Int) (w : List Int), i_wordsOf.l1 (fun y0 y1 => (kke0 y0 y1).bind g) n block i l w = (i_wordsOf.l1 kke0 n block i l w).bind g := by
  intro n
  induction n with
  | zero => intros; rfl
  | succ n ih => intros; simp only [i_wordsOf.l1, grd_bind, cnd_bind, bnd_bind, non_bind, ih]
def i_wordsOf.F {R : Type} (kk : List Int → Option R) (block : ByteArray) : Option R :=
  i_wordsOf.l1 (fun l w => kk w) fuel block (0 : Int) (List.replicate 64 (0 : Int)) [(0 : Int), (0 : Int), (0 : Int), (0 : Int), (0 : Int), (0 : Int), (0 : Int), (0 : Int), (0 : Int), (0 : Int), (0 : Int), (0 : Int), (0 : Int), (0 : Int), (0 : Int), (0 : Int), (0 : Int), (0 : Int), (0 : Int), (0 : Int), (0 : Int), (0 : Int), (0 : Int), (0 : Int), (0 : Int), (0 : Int), (0 : Int), (0 : Int), (0 : Int), (0 : Int), (0 : Int), (0 : Int), (0 : Int), (0 : Int), (0 : Int), (0 : Int), (0 : Int), (0 : Int), (0 : Int), (0 : Int), (0 : Int), (0 : Int), (0 : Int), (0 : Int), (0 : Int), (0 : Int), (0 : Int), (0 : Int), (0 : Int), (0 : Int), (0 : Int), (0 : Int), (0 : Int), (0 : Int), (0 : Int), (0 : Int), (0 : Int), (0 : Int), (0 : Int), (0 : Int), (0 : Int), (0 : Int), (0 : Int), (0 : Int)]
theorem i_wordsOf.F_nat {R S : Type} (g : R → Option S) (kk : List Int → Option R) (block : ByteArray) : i_wordsOf.F (fun y0 => (kk y0).bind g) block = (i_wordsOf.F kk block).bind g := by
  simp only [i_wordsOf.F, grd_bind, cnd_bind, bnd_bind, non_bind, ← i_wordsOf.l1_nat]
def i_wordsOf (block : ByteArray) : Option (List Int) := i_wordsOf.F (fun y0 => some y0) block
theorem i_wordsOf_nat {S : Type} (g : (List Int) → Option S) (block : ByteArray) : i_wordsOf.F (fun y0 => g y0) block = (i_wordsOf block).bind g := i_wordsOf.F_nat g (fun y0 => some y0) block
def i_wordsOf.out : (List Int) → CRes := fun a => ⟨encL SV.enc [.vec 64 (.int .u32)] (a, ()), [encL SC.enc [] ()]⟩
def i_wordsOf.ps : List PS := [.val [none]]
def i_wordsOf.sA : List SA := [.v (.one (.str))]
def i_wordsOf.fi : FI := FIs i_wordsOf.sA (List Int) (fun t => i_wordsOf t.1) i_wordsOf.out i_wordsOf.ps
def i_wordsOf.E : Env := ⟨tt, lkF [(159, i_turned.fi)], 87, 0, [], []⟩
def i_wordsOf.sh1 : SK := ⟨[.v (.one (.str)), .v (.one (.aptr 0)), .v (.one (.aptr 1)), .v (.one (.int .i64))], [.vec 64 (.int .u32), .vec 64 (.int .u32)]⟩
def i_wordsOf.sh1e0 : SK := ⟨[.v (.one (.aptr 0)), .v (.one (.aptr 1))], [.vec 64 (.int .u32), .vec 64 (.int .u32)]⟩
def i_wordsOf.ko1 : Ex → List CastAt × List Nat
  | .nrm => ([], [])
  | .ret => ([], [])
  | .ext i => cond (Nat.beq i 0) ([], [2, 3]) ([], [])
def i_wordsOf.G1 (n : Nat) (R : Type) (t : i_wordsOf.sh1.T) (K : Ex → Kp → Option R) : Option R := i_wordsOf.l1 (fun y0 y1 => K (.ext 0) (SK.enc i_wordsOf.sh1e0 (((), (), ()), (y0, y1, ())))) n t.1.1 t.1.2.2.2.1 t.2.1 t.2.2.1
def i_wordsOf.S1 : Sum := ⟨([], [0, 2, 3, 10]), sumF i_wordsOf.sh1 (i_wordsOf.G1 fuel), i_wordsOf.ko1⟩
theorem i_wordsOf.ok1 (hE : EOk Try.prog (i_wordsOf.E)) : SumOk Try.prog i_wordsOf.E (cB (cR (cL (cR (cR (bodyOf Try.f158)))))) (i_wordsOf.S1) := by
  have hh : HintOk Try.prog i_wordsOf.E (cB (cB (cR (cL (cR (cR (bodyOf Try.f158))))))) (.a) := HintOk.n1 (Q := True) (by kernel_rfl) trivial
  have h := loopS (kin := ([], [0, 2, 3, 10])) (kout := i_wordsOf.ko1) (sh := i_wordsOf.sh1) (F := i_wordsOf.G1) (ops_ok (hE.gv _)) (by kernel_rfl) hh (fun _ _ _ => rfl) (fun n R t K => by kernel_rfl) fuel
  exact HintOk.n1 (c := (cB (cR (cL (cR (cR (bodyOf Try.f158))))))) (h := .s (i_wordsOf.S1)) (P := Try.prog) (E := i_wordsOf.E) (by kernel_rfl) h
theorem i_wordsOf.hok (hE : EOk Try.prog (i_wordsOf.E)) : HintOk Try.prog i_wordsOf.E (bodyOf Try.f158) (.n (.a) (.n (.a) (.n (.n (.a) (.b (.s (i_wordsOf.S1)))) (.a)))) := HintOk.n1 (Q := (True) ∧ ((True) ∧ (((True) ∧ (SumOk Try.prog i_wordsOf.E (cB (cR (cL (cR (cR (bodyOf Try.f158)))))) (i_wordsOf.S1))) ∧ (True)))) (by kernel_rfl) ⟨trivial, ⟨trivial, ⟨⟨trivial, (i_wordsOf.ok1 hE)⟩, trivial⟩⟩⟩
theorem i_wordsOf.hE : EOk Try.prog (i_wordsOf.E) := EOk.of ttOk (⟨i_turned.fok, trivial⟩)
theorem i_wordsOf.fok : FOk Try.prog 158 i_wordsOf.fi :=
  fokS (E := i_wordsOf.E) (wy := ⟨[[]], [[]], []⟩) (h := (fun gs => .n (.a) (.n (.a) (.n (.n (.a) (.b (.s (i_wordsOf.S1)))) (.a))))) (G := fun t g => i_wordsOf.F (fun y0 => g y0) t.1) (by kernel_rfl) i_wordsOf.hE Try.func158 (by kernel_rfl) rfl (Nat.le_refl _) (fun t => HintOk.n1 (by kernel_rfl) (i_wordsOf.hok i_wordsOf.hE)) (fun t g => i_wordsOf_nat g t.1) (fun t => by kernel_rfl)
/-! loop.example_g00220_impl.blockHash -/
def i_blockHash.l1 {R : Type} (kke0 : List Int → List Int → List Int → Option R) : Nat → Int → List Int → List Int → List Int → List Int → List Int → Option R
  | 0, _, _, _, _, _, _ => none
  | n + 1, i, words, k_, l, v, w =>
    cond (decide (i < (64 : Int))) (
      grd (gIx (0 : Int) 8) <|
      grd (gIx (1 : Int) 8) <|
      grd (gIx (2 : Int) 8) <|
      grd (gIx (4 : Int) 8) <|
      grd (gIx (5 : Int) 8) <|
      grd (gIx (6 : Int) 8) <|
      grd (gIx (7 : Int) 8) <|
      (i_turned (rdE (.int .u32 : Kd) v (Int.toNat (4 : Int))) (6 : Int)).bind fun r =>
      (i_turned (rdE (.int .u32 : Kd) v (Int.toNat (4 : Int))) (11 : Int)).bind fun r1 =>
      (i_turned (rdE (.int .u32 : Kd) v (Int.toNat (4 : Int))) (25 : Int)).bind fun r2 =>
      grd (gIx i 64) <|
      grd (gIx i 64) <|
      (i_turned (rdE (.int .u32 : Kd) v (Int.toNat (0 : Int))) (2 : Int)).bind fun r3 =>
      (i_turned (rdE (.int .u32 : Kd) v (Int.toNat (0 : Int))) (13 : Int)).bind fun r4 =>
      (i_turned (rdE (.int .u32 : Kd) v (Int.toNat (0 : Int))) (22 : Int)).bind fun r5 =>
      grd (gIx (3 : Int) 8) <|
      i_blockHash.l1 kke0 n (IntKind.wrap .i64 (i + (1 : Int))) words k_ l [IntKind.wrap .u32 ((IntKind.wrap .u32 ((IntKind.wrap .u32 ((IntKind.wrap .u32 ((IntKind.wrap .u32 ((rdE (.int .u32 : Kd) v (Int.toNat (7 : Int))) + (iXor .u32 (iXor .u32 r r1) r2))) + (iOr .u32 (iAnd .u32 (rdE (.int .u32 : Kd) v (Int.toNat (4 : Int))) (rdE (.int .u32 : Kd) v (Int.toNat (5 : Int)))) (iAnd .u32 (iXor .u32 (IntKind.max .u32) (rdE (.int .u32 : Kd) v (Int.toNat (4 : Int)))) (rdE (.int .u32 : Kd) v (Int.toNat (6 : Int))))))) + (rdE (.int .u32 : Kd) k_ (Int.toNat i)))) + (rdE (.int .u32 : Kd) w (Int.toNat i)))) + (IntKind.wrap .u32 ((iXor .u32 (iXor .u32 r3 r4) r5) + (iOr .u32 (iOr .u32 (iAnd .u32 (rdE (.int .u32 : Kd) v (Int.toNat (0 : Int))) (rdE (.int .u32 : Kd) v (Int.toNat (1 : Int)))) (iAnd .u32 (rdE (.int .u32 : Kd) v (Int.toNat (0 : Int))) (rdE (.int .u32 : Kd) v (Int.toNat (2 : Int))))) (iAnd .u32 (rdE (.int .u32 : Kd) v (Int.toNat (1 : Int))) (rdE (.int .u32 : Kd) v (Int.toNat (2 : Int)))))))), rdE (.int .u32 : Kd) v (Int.toNat (0 : Int)), rdE (.int .u32 : Kd) v (Int.toNat (1 : Int)), rdE (.int .u32 : Kd) v (Int.toNat (2 : Int)), IntKind.wrap .u32 ((rdE (.int .u32 : Kd) v (Int.toNat (3 : Int))) + (IntKind.wrap .u32 ((IntKind.wrap .u32 ((IntKind.wrap .u32 ((IntKind.wrap .u32 ((rdE (.int .u32 : Kd) v (Int.toNat (7 : Int))) + (iXor .u32 (iXor .u32 r r1) r2))) + (iOr .u32 (iAnd .u32 (rdE (.int .u32 : Kd) v (Int.toNat (4 : Int))) (rdE (.int .u32 : Kd) v (Int.toNat (5 : Int)))) (iAnd .u32 (iXor .u32 (IntKind.max .u32) (rdE (.int .u32 : Kd) v (Int.toNat (4 : Int)))) (rdE (.int .u32 : Kd) v (Int.toNat (6 : Int))))))) + (rdE (.int .u32 : Kd) k_ (Int.toNat i)))) + (rdE (.int .u32 : Kd) w (Int.toNat i))))), rdE (.int .u32 : Kd) v (Int.toNat (4 : Int)), rdE (.int .u32 : Kd) v (Int.toNat (5 : Int)), rdE (.int .u32 : Kd) v (Int.toNat (6 : Int))] w) (kke0 words l v)
theorem i_blockHash.l1_nat {R S : Type} (g : R → Option S) (kke0 : List Int → List Int → List Int → Option R) : ∀ (n : Nat) (i : Int) (words : List Int) (k_ : List Int) (l : List Int) (v : List Int) (w : List Int), i_blockHash.l1 (fun y0 y1 y2 => (kke0 y0 y1 y2).bind g) n i words k_ l v w = (i_blockHash.l1 kke0 n i words k_ l v w).bind g := by
  intro n
  induction n with
  | zero => intros; rfl
  | succ n ih => intros; simp only [i_blockHash.l1, grd_bind, cnd_bind, bnd_bind, non_bind, ih]
def i_blockHash.l2 {R : Type} (kke2 : List Int → List Int → Option R) : Nat → Int → List Int → List Int → List Int → Option R
  | 0, _, _, _, _ => none
  | n + 1, i, words, l, v =>
    cond (decide (i < (8 : Int))) (
      grd (gIx i 8) <|
      grd (gIx i 8) <|
      grd (gIx i 8) <|
      i_blockHash.l2 kke2 n (IntKind.wrap .i64 (i + (1 : Int))) words l (setE (.int .u32 : Kd) v (Int.toNat i) (IntKind.wrap .u32 ((rdE (.int .u32 : Kd) v (Int.toNat i)) + (rdE (.int .u32 : Kd) words (Int.toNat i)))))) (kke2 l v)
theorem i_blockHash.l2_nat {R S : Type} (g : R → Option S) (kke2 : List Int → List Int → Option R) : ∀ (n : Nat) (i : Int) (words : List Int) (l : List Int) (v : List Int), i_blockHash.l2 (fun y0 y1 => (kke2 y0 y1).bind g) n i words l v = (i_blockHash.l2 kke2 n i words l v).bind g := by
  intro n
  induction n with
  | zero => intros; rfl
  | succ n ih => intros; simp only [i_blockHash.l2, grd_bind, cnd_bind, bnd_bind, non_bind, ih]
def i_blockHash.F {R : Type} (kk : List Int → Option R) (words : List Int) (k_ : List Int) (block : ByteArray) : Option R :=
  (i_wordsOf block).bind fun r =>
  i_blockHash.l1 (fun words1 l v => i_blockHash.l2 (fun l1 v1 => kk v1) fuel (0 : Int) words1 l v) fuel (0 : Int) words k_ (List.replicate 8 (0 : Int)) words r
theorem i_blockHash.F_nat {R S : Type} (g : R → Option S) (kk : List Int → Option R) (words : List Int) (k_ : List Int) (block : ByteArray) : i_blockHash.F (fun y0 => (kk y0).bind g) words k_ block = (i_blockHash.F kk words k_ block).bind g := by
  simp only [i_blockHash.F, grd_bind, cnd_bind, bnd_bind, non_bind, ← i_blockHash.l1_nat, ← i_blockHash.l2_nat]
theorem i_blockHash_ex : ∃ f : List Int → List Int → ByteArray → Option (List Int), f = fun (words : List Int) (k_ : List Int) (block : ByteArray) => i_blockHash.F (fun y0 => some y0) words k_ block := ⟨_, rfl⟩
/-- Chosen, so that the kernel does not unfold it. -/
noncomputable def i_blockHash : List Int → List Int → ByteArray → Option (List Int) := Classical.choose i_blockHash_ex
theorem i_blockHash_eq (words : List Int) (k_ : List Int) (block : ByteArray) : i_blockHash words k_ block = i_blockHash.F (fun y0 => some y0) words k_ block := (congrFun (congrFun (congrFun (Classical.choose_spec i_blockHash_ex) words) k_) block)
theorem i_blockHash_nat {S : Type} (g : (List Int) → Option S) (words : List Int) (k_ : List Int) (block : ByteArray) : i_blockHash.F (fun y0 => g y0) words k_ block = (i_blockHash words k_ block).bind g := by
  rw [i_blockHash_eq]
  exact i_blockHash.F_nat g (fun y0 => some y0) words k_ block
def i_blockHash.out : (List Int) → CRes := fun a => ⟨encL SV.enc [.vec 8 (.int .u32)] (a, ()), [encL SC.enc [] (), encL SC.enc [] (), encL SC.enc [] ()]⟩
def i_blockHash.ps : List PS := [.vec, .vec, .val [none]]
def i_blockHash.sA : List SA := [.v (.vec 8 (.int .u32)), .v (.vec 64 (.int .u32)), .v (.one (.str))]
def i_blockHash.fi : FI := FIs i_blockHash.sA (List Int) (fun t => i_blockHash t.1 t.2.1 t.2.2.1) i_blockHash.out i_blockHash.ps
def i_blockHash.E : Env := ⟨tt, lkF [(158, i_wordsOf.fi), (159, i_turned.fi)], 113, 0, [], []⟩
def i_blockHash.sh1 : SK := ⟨[.v (.one (.aptr 0)), .v (.one (.aptr 1)), .v (.one (.aptr 2)), .v (.one (.aptr 3)), .v (.one (.aptr 4)), .v (.one (.int .i64))], [.vec 8 (.int .u32), .vec 64 (.int .u32), .vec 8 (.int .u32), .vec 8 (.int .u32), .vec 64 (.int .u32)]⟩
def i_blockHash.sh1e0 : SK := ⟨[.v (.one (.aptr 0)), .v (.one (.aptr 1)), .v (.one (.aptr 2))], [.vec 8 (.int .u32), .vec 8 (.int .u32), .vec 8 (.int .u32)]⟩
def i_blockHash.ko1 : Ex → List CastAt × List Nat
  | .nrm => ([], [])
  | .ret => ([], [])
  | .ext i => cond (Nat.beq i 0) ([], [3, 6, 7]) ([], [])
def i_blockHash.G1 (n : Nat) (R : Type) (t : i_blockHash.sh1.T) (K : Ex → Kp → Option R) : Option R := i_blockHash.l1 (fun y0 y1 y2 => K (.ext 0) (SK.enc i_blockHash.sh1e0 (((), (), (), ()), (y0, y1, y2, ())))) n t.1.2.2.2.2.2.1 t.2.1 t.2.2.1 t.2.2.2.1 t.2.2.2.2.1 t.2.2.2.2.2.1
def i_blockHash.S1 : Sum := ⟨([], [3, 4, 6, 7, 8, 22]), sumF i_blockHash.sh1 (i_blockHash.G1 fuel), i_blockHash.ko1⟩
theorem i_blockHash.ok1 (hE : EOk Try.prog (i_blockHash.E)) : SumOk Try.prog i_blockHash.E (cB (cR (cL (cR (cR (bodyOf Try.f129)))))) (i_blockHash.S1) := by
  have hh : HintOk Try.prog i_blockHash.E (cB (cB (cR (cL (cR (cR (bodyOf Try.f129))))))) (.a) := HintOk.n1 (Q := True) (by kernel_rfl) trivial
  have h := loopS (kin := ([], [3, 4, 6, 7, 8, 22])) (kout := i_blockHash.ko1) (sh := i_blockHash.sh1) (F := i_blockHash.G1) (ops_ok (hE.gv _)) (by kernel_rfl) hh (fun _ _ _ => rfl) (fun n R t K => by kernel_rfl) fuel
  exact HintOk.n1 (c := (cB (cR (cL (cR (cR (bodyOf Try.f129))))))) (h := .s (i_blockHash.S1)) (P := Try.prog) (E := i_blockHash.E) (by kernel_rfl) h
def i_blockHash.sh2 : SK := ⟨[.v (.one (.aptr 0)), .v (.one (.aptr 1)), .v (.one (.aptr 2)), .v (.one (.int .i64))], [.vec 8 (.int .u32), .vec 8 (.int .u32), .vec 8 (.int .u32)]⟩
def i_blockHash.sh2e2 : SK := ⟨[.v (.one (.aptr 0)), .v (.one (.aptr 1))], [.vec 8 (.int .u32), .vec 8 (.int .u32)]⟩
def i_blockHash.ko2 : Ex → List CastAt × List Nat
  | .nrm => ([], [])
  | .ret => ([], [])
  | .ext i => cond (Nat.beq i 2) ([], [6, 7]) ([], [])
def i_blockHash.G2 (n : Nat) (R : Type) (t : i_blockHash.sh2.T) (K : Ex → Kp → Option R) : Option R := i_blockHash.l2 (fun y0 y1 => K (.ext 2) (SK.enc i_blockHash.sh2e2 (((), (), ()), (y0, y1, ())))) n t.1.2.2.2.1 t.2.1 t.2.2.1 t.2.2.2.1
def i_blockHash.S2 : Sum := ⟨([], [3, 6, 7, 100]), sumF i_blockHash.sh2 (i_blockHash.G2 fuel), i_blockHash.ko2⟩
theorem i_blockHash.ok2 (hE : EOk Try.prog (i_blockHash.E)) : SumOk Try.prog i_blockHash.E (cB (cR (cL (cR (cR (cR (bodyOf Try.f129))))))) (i_blockHash.S2) := by
  have hh : HintOk Try.prog i_blockHash.E (cB (cB (cR (cL (cR (cR (cR (bodyOf Try.f129)))))))) (.a) := HintOk.n1 (Q := True) (by kernel_rfl) trivial
  have h := loopS (kin := ([], [3, 6, 7, 100])) (kout := i_blockHash.ko2) (sh := i_blockHash.sh2) (F := i_blockHash.G2) (ops_ok (hE.gv _)) (by kernel_rfl) hh (fun _ _ _ => rfl) (fun n R t K => by kernel_rfl) fuel
  exact HintOk.n1 (c := (cB (cR (cL (cR (cR (cR (bodyOf Try.f129)))))))) (h := .s (i_blockHash.S2)) (P := Try.prog) (E := i_blockHash.E) (by kernel_rfl) h
theorem i_blockHash.hok (hE : EOk Try.prog (i_blockHash.E)) : HintOk Try.prog i_blockHash.E (bodyOf Try.f129) (.n (.a) (.n (.a) (.n (.n (.a) (.b (.s (i_blockHash.S1)))) (.n (.n (.a) (.b (.s (i_blockHash.S2)))) (.a))))) := HintOk.n1 (Q := (True) ∧ ((True) ∧ (((True) ∧ (SumOk Try.prog i_blockHash.E (cB (cR (cL (cR (cR (bodyOf Try.f129)))))) (i_blockHash.S1))) ∧ (((True) ∧ (SumOk Try.prog i_blockHash.E (cB (cR (cL (cR (cR (cR (bodyOf Try.f129))))))) (i_blockHash.S2))) ∧ (True))))) (by kernel_rfl) ⟨trivial, ⟨trivial, ⟨⟨trivial, (i_blockHash.ok1 hE)⟩, ⟨⟨trivial, (i_blockHash.ok2 hE)⟩, trivial⟩⟩⟩⟩
theorem i_blockHash.hE : EOk Try.prog (i_blockHash.E) := EOk.of ttOk (⟨i_wordsOf.fok, ⟨i_turned.fok, trivial⟩⟩)
theorem i_blockHash.fok : FOk Try.prog 129 i_blockHash.fi :=
  fokS (E := i_blockHash.E) (wy := ⟨[[]], [[], [], []], []⟩) (h := (fun gs => .n (.a) (.n (.a) (.n (.n (.a) (.b (.s (i_blockHash.S1)))) (.n (.n (.a) (.b (.s (i_blockHash.S2)))) (.a)))))) (G := fun t g => i_blockHash.F (fun y0 => g y0) t.1 t.2.1 t.2.2.1) (by kernel_rfl) i_blockHash.hE Try.func129 (by kernel_rfl) rfl (Nat.le_refl _) (fun t => HintOk.n1 (by kernel_rfl) (i_blockHash.hok i_blockHash.hE)) (fun t g => i_blockHash_nat g t.1 t.2.1 t.2.2.1) (fun t => by kernel_rfl)
/-! loop.example_g00220_impl.hash -/
def i_hash.l1 {R : Type} (kke0 : List Int → Option R) : Nat → ByteArray → Int → List Int → List Int → Option R
  | 0, _, _, _, _ => none
  | n + 1, all, at_, words, k_ =>
    cond (decide (at_ < (ByteArray.size all : Int))) (
      grd (gSl at_ (IntKind.wrap .i64 (at_ + (64 : Int))) (ByteArray.size all)) <|
      (i_blockHash words k_ (cut all at_ (IntKind.wrap .i64 (at_ + (64 : Int))))).bind fun r =>
      i_hash.l1 kke0 n all (IntKind.wrap .i64 (at_ + (64 : Int))) r k_) (kke0 words)
theorem i_hash.l1_nat {R S : Type} (g : R → Option S) (kke0 : List Int → Option R) : ∀ (n : Nat) (all : ByteArray) (at_ : Int) (words : List Int) (k_ : List Int), i_hash.l1 (fun y0 => (kke0 y0).bind g) n all at_ words k_ = (i_hash.l1 kke0 n all at_ words k_).bind g := by
  intro n
  induction n with
  | zero => intros; rfl
  | succ n ih => intros; simp only [i_hash.l1, grd_bind, cnd_bind, bnd_bind, non_bind, ih]
def i_hash.l2 {R : Type} (kke2 : ByteArray → Option R) : Nat → ByteArray → List Int → Int → Option R
  | 0, _, _, _ => none
  | n + 1, out, l, i =>
    cond (decide (i < (8 : Int))) (
      grd (gIx i 8) <|
      (i_number (IntKind.wrap .i64 (rdE (.int .u32 : Kd) l (Int.toNat i))) (4 : Int)).bind fun r =>
      grd (gCat out r) <|
      i_hash.l2 kke2 n (out ++ r) l (IntKind.wrap .i64 (i + (1 : Int)))) (kke2 out)
theorem i_hash.l2_nat {R S : Type} (g : R → Option S) (kke2 : ByteArray → Option R) : ∀ (n : Nat) (out : ByteArray) (l : List Int) (i : Int), i_hash.l2 (fun y0 => (kke2 y0).bind g) n out l i = (i_hash.l2 kke2 n out l i).bind g := by
  intro n
  induction n with
  | zero => intros; rfl
  | succ n ih => intros; simp only [i_hash.l2, grd_bind, cnd_bind, bnd_bind, non_bind, ih]
def i_hash.F {R : Type} (kk : ByteArray → Option R) (s : ByteArray) : Option R :=
  grd (gCat s (⟨#[128]⟩ : ByteArray)) <|
  grd (gNz (64 : Int)) <|
  grd (gNz (64 : Int)) <|
  (strings_Repeat (⟨#[0]⟩ : ByteArray) (Int.tmod (IntKind.wrap .i64 ((119 : Int) - (Int.tmod (ByteArray.size s : Int) (64 : Int)))) (64 : Int))).bind fun r =>
  grd (gCat (s ++ (⟨#[128]⟩ : ByteArray)) r) <|
  (i_number (IntKind.wrap .i64 ((8 : Int) * (ByteArray.size s : Int))) (8 : Int)).bind fun r1 =>
  grd (gCat ((s ++ (⟨#[128]⟩ : ByteArray)) ++ r) r1) <|
  (i_hashWords).bind fun r2 =>
  (i_roundWords).bind fun r3 =>
  i_hash.l1 (fun words => i_hash.l2 (fun out => kk out) fuel ByteArray.empty words (0 : Int)) fuel (((s ++ (⟨#[128]⟩ : ByteArray)) ++ r) ++ r1) (0 : Int) r2 r3
theorem i_hash.F_nat {R S : Type} (g : R → Option S) (kk : ByteArray → Option R) (s : ByteArray) : i_hash.F (fun y0 => (kk y0).bind g) s = (i_hash.F kk s).bind g := by
  simp only [i_hash.F, grd_bind, cnd_bind, bnd_bind, non_bind, ← i_hash.l1_nat, ← i_hash.l2_nat]
theorem i_hash_ex : ∃ f : ByteArray → Option ByteArray, f = fun (s : ByteArray) => i_hash.F (fun y0 => some y0) s := ⟨_, rfl⟩
/-- Chosen, so that the kernel does not unfold it. -/
noncomputable def i_hash : ByteArray → Option ByteArray := Classical.choose i_hash_ex
theorem i_hash_eq (s : ByteArray) : i_hash s = i_hash.F (fun y0 => some y0) s := (congrFun (Classical.choose_spec i_hash_ex) s)
theorem i_hash_nat {S : Type} (g : ByteArray → Option S) (s : ByteArray) : i_hash.F (fun y0 => g y0) s = (i_hash s).bind g := by
  rw [i_hash_eq]
  exact i_hash.F_nat g (fun y0 => some y0) s
def i_hash.out : ByteArray → CRes := fun a => ⟨encL SV.enc [.one (.str)] (a, ()), [encL SC.enc [] ()]⟩
def i_hash.ps : List PS := [.val [none]]
def i_hash.sA : List SA := [.v (.one (.str))]
def i_hash.fi : FI := FIs i_hash.sA (ByteArray) (fun t => i_hash t.1) i_hash.out i_hash.ps
def i_hash.E : Env := ⟨tt, lkF [(95, i_number.fi), (126, strings_Repeat.fi), (127, i_hashWords.fi), (128, i_roundWords.fi), (129, i_blockHash.fi)], 51, 0, [], []⟩
def i_hash.sh1 : SK := ⟨[.v (.one (.str)), .v (.one (.aptr 0)), .v (.one (.aptr 1)), .v (.one (.int .i64))], [.vec 8 (.int .u32), .vec 64 (.int .u32)]⟩
def i_hash.sh1e0 : SK := ⟨[.v (.one (.aptr 0))], [.vec 8 (.int .u32)]⟩
def i_hash.ko1 : Ex → List CastAt × List Nat
  | .nrm => ([], [])
  | .ret => ([], [])
  | .ext i => cond (Nat.beq i 0) ([], [4]) ([], [])
def i_hash.G1 (n : Nat) (R : Type) (t : i_hash.sh1.T) (K : Ex → Kp → Option R) : Option R := i_hash.l1 (fun y0 => K (.ext 0) (SK.enc i_hash.sh1e0 (((), ()), (y0, ())))) n t.1.1 t.1.2.2.2.1 t.2.1 t.2.2.1
def i_hash.S1 : Sum := ⟨([], [3, 4, 5, 6]), sumF i_hash.sh1 (i_hash.G1 fuel), i_hash.ko1⟩
theorem i_hash.ok1 (hE : EOk Try.prog (i_hash.E)) : SumOk Try.prog i_hash.E (cB (cR (cL (cR (cR (cR (bodyOf Try.f85))))))) (i_hash.S1) := by
  have hh : HintOk Try.prog i_hash.E (cB (cB (cR (cL (cR (cR (cR (bodyOf Try.f85)))))))) (.a) := HintOk.n1 (Q := True) (by kernel_rfl) trivial
  have h := loopS (kin := ([], [3, 4, 5, 6])) (kout := i_hash.ko1) (sh := i_hash.sh1) (F := i_hash.G1) (ops_ok (hE.gv _)) (by kernel_rfl) hh (fun _ _ _ => rfl) (fun n R t K => by kernel_rfl) fuel
  exact HintOk.n1 (c := (cB (cR (cL (cR (cR (cR (bodyOf Try.f85)))))))) (h := .s (i_hash.S1)) (P := Try.prog) (E := i_hash.E) (by kernel_rfl) h
def i_hash.sh2 : SK := ⟨[.v (.one (.str)), .v (.vec 8 (.int .u32)), .v (.one (.int .i64))], []⟩
def i_hash.sh2e2 : SK := ⟨[.v (.one (.str))], []⟩
def i_hash.ko2 : Ex → List CastAt × List Nat
  | .nrm => ([], [])
  | .ret => ([], [])
  | .ext i => cond (Nat.beq i 2) ([], [7]) ([], [])
def i_hash.G2 (n : Nat) (R : Type) (t : i_hash.sh2.T) (K : Ex → Kp → Option R) : Option R := i_hash.l2 (fun y0 => K (.ext 2) (SK.enc i_hash.sh2e2 ((y0, ()), ()))) n t.1.1 t.1.2.1 t.1.2.2.1
def i_hash.S2 : Sum := ⟨([], [7, 40, 41]), sumF i_hash.sh2 (i_hash.G2 fuel), i_hash.ko2⟩
theorem i_hash.ok2 (hE : EOk Try.prog (i_hash.E)) : SumOk Try.prog i_hash.E (cB (cR (cL (cR (cR (cR (cR (cR (bodyOf Try.f85))))))))) (i_hash.S2) := by
  have hh : HintOk Try.prog i_hash.E (cB (cB (cR (cL (cR (cR (cR (cR (cR (bodyOf Try.f85)))))))))) (.a) := HintOk.n1 (Q := True) (by kernel_rfl) trivial
  have h := loopS (kin := ([], [7, 40, 41])) (kout := i_hash.ko2) (sh := i_hash.sh2) (F := i_hash.G2) (ops_ok (hE.gv _)) (by kernel_rfl) hh (fun _ _ _ => rfl) (fun n R t K => by kernel_rfl) fuel
  exact HintOk.n1 (c := (cB (cR (cL (cR (cR (cR (cR (cR (bodyOf Try.f85)))))))))) (h := .s (i_hash.S2)) (P := Try.prog) (E := i_hash.E) (by kernel_rfl) h
theorem i_hash.hok (hE : EOk Try.prog (i_hash.E)) : HintOk Try.prog i_hash.E (bodyOf Try.f85) (.n (.a) (.n (.a) (.n (.a) (.n (.n (.a) (.b (.s (i_hash.S1)))) (.n (.a) (.n (.n (.a) (.b (.s (i_hash.S2)))) (.a))))))) := HintOk.n1 (Q := (True) ∧ ((True) ∧ ((True) ∧ (((True) ∧ (SumOk Try.prog i_hash.E (cB (cR (cL (cR (cR (cR (bodyOf Try.f85))))))) (i_hash.S1))) ∧ ((True) ∧ (((True) ∧ (SumOk Try.prog i_hash.E (cB (cR (cL (cR (cR (cR (cR (cR (bodyOf Try.f85))))))))) (i_hash.S2))) ∧ (True))))))) (by kernel_rfl) ⟨trivial, ⟨trivial, ⟨trivial, ⟨⟨trivial, (i_hash.ok1 hE)⟩, ⟨trivial, ⟨⟨trivial, (i_hash.ok2 hE)⟩, trivial⟩⟩⟩⟩⟩⟩
theorem i_hash.hE : EOk Try.prog (i_hash.E) := EOk.of ttOk (⟨i_number.fok, ⟨strings_Repeat.fok, ⟨i_hashWords.fok, ⟨i_roundWords.fok, ⟨i_blockHash.fok, trivial⟩⟩⟩⟩⟩)
theorem i_hash.fok : FOk Try.prog 85 i_hash.fi :=
  fokS (E := i_hash.E) (wy := ⟨[[none]], [[]], []⟩) (h := (fun gs => .n (.a) (.n (.a) (.n (.a) (.n (.n (.a) (.b (.s (i_hash.S1)))) (.n (.a) (.n (.n (.a) (.b (.s (i_hash.S2)))) (.a)))))))) (G := fun t g => i_hash.F (fun y0 => g y0) t.1) (by kernel_rfl) i_hash.hE Try.func85 (by kernel_rfl) rfl (Nat.le_refl _) (fun t => HintOk.n1 (by kernel_rfl) (i_hash.hok i_hash.hE)) (fun t g => i_hash_nat g t.1) (fun t => by kernel_rfl)
/-! loop.example_g00220_impl.nodeHash -/
def i_nodeHash.F {R : Type} (kk : ByteArray → Option R) (left : ByteArray) (right : ByteArray) : Option R :=
  grd (gCat (⟨#[1]⟩ : ByteArray) left) <|
  grd (gCat ((⟨#[1]⟩ : ByteArray) ++ left) right) <|
  (i_hash (((⟨#[1]⟩ : ByteArray) ++ left) ++ right)).bind fun r =>
  kk r
theorem i_nodeHash.F_nat {R S : Type} (g : R → Option S) (kk : ByteArray → Option R) (left : ByteArray) (right : ByteArray) : i_nodeHash.F (fun y0 => (kk y0).bind g) left right = (i_nodeHash.F kk left right).bind g := by
  simp only [i_nodeHash.F, grd_bind, cnd_bind, bnd_bind, non_bind]
def i_nodeHash (left : ByteArray) (right : ByteArray) : Option ByteArray := i_nodeHash.F (fun y0 => some y0) left right
theorem i_nodeHash_nat {S : Type} (g : ByteArray → Option S) (left : ByteArray) (right : ByteArray) : i_nodeHash.F (fun y0 => g y0) left right = (i_nodeHash left right).bind g := i_nodeHash.F_nat g (fun y0 => some y0) left right
def i_nodeHash.out : ByteArray → CRes := fun a => ⟨encL SV.enc [.one (.str)] (a, ()), [encL SC.enc [] (), encL SC.enc [] ()]⟩
def i_nodeHash.ps : List PS := [.val [none], .val [none]]
def i_nodeHash.sA : List SA := [.v (.one (.str)), .v (.one (.str))]
def i_nodeHash.fi : FI := FIs i_nodeHash.sA (ByteArray) (fun t => i_nodeHash t.1 t.2.1) i_nodeHash.out i_nodeHash.ps
def i_nodeHash.E : Env := ⟨tt, lkF [(85, i_hash.fi)], 10, 0, [], []⟩
theorem i_nodeHash.hok (hE : EOk Try.prog (i_nodeHash.E)) : HintOk Try.prog i_nodeHash.E (bodyOf Try.f168) (.a) := HintOk.n1 (Q := True) (by kernel_rfl) trivial
theorem i_nodeHash.hE : EOk Try.prog (i_nodeHash.E) := EOk.of ttOk (⟨i_hash.fok, trivial⟩)
theorem i_nodeHash.fok : FOk Try.prog 168 i_nodeHash.fi :=
  fokS (E := i_nodeHash.E) (wy := ⟨[[none]], [[], []], []⟩) (h := (fun gs => .a)) (G := fun t g => i_nodeHash.F (fun y0 => g y0) t.1 t.2.1) (by kernel_rfl) i_nodeHash.hE Try.func168 (by kernel_rfl) rfl (Nat.le_refl _) (fun t => HintOk.n1 (by kernel_rfl) (i_nodeHash.hok i_nodeHash.hE)) (fun t g => i_nodeHash_nat g t.1 t.2.1) (fun t => by kernel_rfl)
/-! __loop.example_g00220_impl.prover_.node -/
def i_prover_node.F {R : Type} (kk : ByteArray → List ByteArray → Bool → List ByteArray → Option R) (p_proof : List ByteArray) (p_bad : Bool) (p_steps : List ByteArray) (left : ByteArray) (right : ByteArray) : Option R :=
  grd (gCat (⟨#[1]⟩ : ByteArray) left) <|
  grd (gCat ((⟨#[1]⟩ : ByteArray) ++ left) right) <|
  grd (gRm (((List.length p_steps) + (List.length ([((⟨#[1]⟩ : ByteArray) ++ left) ++ right]))) * 16)) <|
  (i_nodeHash left right).bind fun r =>
  kk r p_proof p_bad (p_steps ++ ([((⟨#[1]⟩ : ByteArray) ++ left) ++ right]))
theorem i_prover_node.F_nat {R S : Type} (g : R → Option S) (kk : ByteArray → List ByteArray → Bool → List ByteArray → Option R) (p_proof : List ByteArray) (p_bad : Bool) (p_steps : List ByteArray) (left : ByteArray) (right : ByteArray) : i_prover_node.F (fun y0 y1 y2 y3 => (kk y0 y1 y2 y3).bind g) p_proof p_bad p_steps left right = (i_prover_node.F kk p_proof p_bad p_steps left right).bind g := by
  simp only [i_prover_node.F, grd_bind, cnd_bind, bnd_bind, non_bind]
def i_prover_node (p_proof : List ByteArray) (p_bad : Bool) (p_steps : List ByteArray) (left : ByteArray) (right : ByteArray) : Option (ByteArray × List ByteArray × Bool × List ByteArray) := i_prover_node.F (fun y0 y1 y2 y3 => some (y0, y1, y2, y3)) p_proof p_bad p_steps left right
theorem i_prover_node_nat {S : Type} (g : (ByteArray × List ByteArray × Bool × List ByteArray) → Option S) (p_proof : List ByteArray) (p_bad : Bool) (p_steps : List ByteArray) (left : ByteArray) (right : ByteArray) : i_prover_node.F (fun y0 y1 y2 y3 => g (y0, y1, y2, y3)) p_proof p_bad p_steps left right = (i_prover_node p_proof p_bad p_steps left right).bind g := i_prover_node.F_nat g (fun y0 y1 y2 y3 => some (y0, y1, y2, y3)) p_proof p_bad p_steps left right
def i_prover_node.out : (ByteArray × List ByteArray × Bool × List ByteArray) → CRes := fun a => ⟨encL SV.enc [.one (.str)] (a.1, ()), [encL SC.enc [.slv [1] .str, .bool, .own [] .str true] (a.2.1, a.2.2.1, a.2.2.2, ()), encL SC.enc [] (), encL SC.enc [] ()]⟩
def i_prover_node.ps : List PS := [.ptr [some (.str, false), none, some (.str, true)], .val [none], .val [none]]
def i_prover_node.sA : List SA := [.ptr [.slv [] .str, .bool, .own [] .str true], .v (.one (.str)), .v (.one (.str))]
def i_prover_node.fi : FI := FIs i_prover_node.sA (ByteArray × List ByteArray × Bool × List ByteArray) (fun t => i_prover_node t.1.1 t.1.2.1 t.1.2.2.1 t.2.1 t.2.2.1) i_prover_node.out i_prover_node.ps
def i_prover_node.E : Env := ⟨tt, lkF [(168, i_nodeHash.fi)], 23, 2, [], []⟩
theorem i_prover_node.hok (hE : EOk Try.prog (i_prover_node.E)) : HintOk Try.prog i_prover_node.E (bodyOf Try.f148) (.a) := HintOk.n1 (Q := True) (by kernel_rfl) trivial
theorem i_prover_node.hE : EOk Try.prog (i_prover_node.E) := EOk.of ttOk (⟨i_nodeHash.fok, trivial⟩)
theorem i_prover_node.fok : FOk Try.prog 148 i_prover_node.fi :=
  fokS (E := i_prover_node.E) (wy := ⟨[[none]], [[some (.str, false), none, some (.str, true)], [], []], []⟩) (h := (fun gs => .a)) (G := fun t g => i_prover_node.F (fun y0 y1 y2 y3 => g (y0, y1, y2, y3)) t.1.1 t.1.2.1 t.1.2.2.1 t.2.1 t.2.2.1) (by kernel_rfl) i_prover_node.hE Try.func148 (by kernel_rfl) rfl (Nat.le_refl _) (fun t => HintOk.n1 (by kernel_rfl) (i_prover_node.hok i_prover_node.hE)) (fun t g => i_prover_node_nat g t.1.1 t.1.2.1 t.1.2.2.1 t.2.1 t.2.2.1) (fun t => by kernel_rfl)
/-! __loop.example_g00220_impl.prover_.next -/
def i_prover_next.F {R : Type} (kk : ByteArray → List ByteArray → Bool → List ByteArray → Option R) (p_proof : List ByteArray) (p_bad : Bool) (p_steps : List ByteArray) : Option R :=
  cond ((List.length p_proof : Int) == (0 : Int)) (kk ByteArray.empty p_proof true p_steps) (
    grd (gIx (0 : Int) (List.length p_proof)) <|
    grd (gSl (1 : Int) (List.length p_proof : Int) (List.length p_proof)) <|
    kk (rdE (.str : Kd) p_proof (Int.toNat (0 : Int))) (sub p_proof (1 : Int) (List.length p_proof : Int)) p_bad p_steps)
theorem i_prover_next.F_nat {R S : Type} (g : R → Option S) (kk : ByteArray → List ByteArray → Bool → List ByteArray → Option R) (p_proof : List ByteArray) (p_bad : Bool) (p_steps : List ByteArray) : i_prover_next.F (fun y0 y1 y2 y3 => (kk y0 y1 y2 y3).bind g) p_proof p_bad p_steps = (i_prover_next.F kk p_proof p_bad p_steps).bind g := by
  simp only [i_prover_next.F, grd_bind, cnd_bind, bnd_bind, non_bind]
def i_prover_next (p_proof : List ByteArray) (p_bad : Bool) (p_steps : List ByteArray) : Option (ByteArray × List ByteArray × Bool × List ByteArray) := i_prover_next.F (fun y0 y1 y2 y3 => some (y0, y1, y2, y3)) p_proof p_bad p_steps
theorem i_prover_next_nat {S : Type} (g : (ByteArray × List ByteArray × Bool × List ByteArray) → Option S) (p_proof : List ByteArray) (p_bad : Bool) (p_steps : List ByteArray) : i_prover_next.F (fun y0 y1 y2 y3 => g (y0, y1, y2, y3)) p_proof p_bad p_steps = (i_prover_next p_proof p_bad p_steps).bind g := i_prover_next.F_nat g (fun y0 y1 y2 y3 => some (y0, y1, y2, y3)) p_proof p_bad p_steps
def i_prover_next.out : (ByteArray × List ByteArray × Bool × List ByteArray) → CRes := fun a => ⟨encL SV.enc [.one (.str)] (a.1, ()), [encL SC.enc [.slv [1] .str, .bool, .own [] .str true] (a.2.1, a.2.2.1, a.2.2.2, ())]⟩
def i_prover_next.ps : List PS := [.ptr [some (.str, false), none, some (.str, true)]]
def i_prover_next.sA : List SA := [.ptr [.slv [] .str, .bool, .own [] .str true]]
def i_prover_next.fi : FI := FIs i_prover_next.sA (ByteArray × List ByteArray × Bool × List ByteArray) (fun t => i_prover_next t.1.1 t.1.2.1 t.1.2.2.1) i_prover_next.out i_prover_next.ps
def i_prover_next.E : Env := ⟨tt, lkF [], 28, 2, [], []⟩
theorem i_prover_next.hok (hE : EOk Try.prog (i_prover_next.E)) : HintOk Try.prog i_prover_next.E (bodyOf Try.f149) (.a) := HintOk.n1 (Q := True) (by kernel_rfl) trivial
theorem i_prover_next.hE : EOk Try.prog (i_prover_next.E) := EOk.of ttOk (trivial)
theorem i_prover_next.fok : FOk Try.prog 149 i_prover_next.fi :=
  fokS (E := i_prover_next.E) (wy := ⟨[[none]], [[some (.str, false), none, some (.str, true)]], []⟩) (h := (fun gs => .a)) (G := fun t g => i_prover_next.F (fun y0 y1 y2 y3 => g (y0, y1, y2, y3)) t.1.1 t.1.2.1 t.1.2.2.1) (by kernel_rfl) i_prover_next.hE Try.func149 (by kernel_rfl) rfl (Nat.le_refl _) (fun t => HintOk.n1 (by kernel_rfl) (i_prover_next.hok i_prover_next.hE)) (fun t g => i_prover_next_nat g t.1.1 t.1.2.1 t.1.2.2.1) (fun t => by kernel_rfl)
end
end Go.Proofs.YtdpjbeeokimnaaaA
