/-
  Functions of the program, and that the small machine's runs are these. No condition.
  Printed by wip/amp/main.py (a session's own program) out of Lean's print of the program; Lean's kernel checks it.
-/
import Derived.Test.YtdpjbeeokimnaaaXcF0
namespace Go.Proofs.YtdpjbeeokimnaaaA
open Go
noncomputable section
set_option linter.unusedVariables false
set_option linter.unusedSimpArgs false
set_option maxRecDepth 100000

/-! loop.example_g00220_impl.hash -/
def i_hash.l1 {R : Type} (kke0 : List Int → Option R) : Nat → ByteArray → Int → List Int → List Int → Option R
  | 0, _, _, _, _ => none
  | n + 1, all, at_, words, k_ =>
    cond (decide (at_ < (ByteArray.size all : Int))) (
      grd (gSl at_ (IntKind.wrap .i64 (at_ + (64 : Int))) (ByteArray.size all)) <|
      (i_blockHash words k_ (cut all at_ (IntKind.wrap .i64 (at_ + (64 : Int))))).bind fun r =>
      i_hash.l1 kke0 n all (IntKind.wrap .i64 (at_ + (64 : Int))) r k_) (kke0 words)
theorem i_hash.l1_nat {R S : Type} (g : R → Option S) (kke0 : List Int → Option R) : ∀ (n : Nat) (all : ByteArray) (at_ : Int) (words : List Int) (k_ : List Int), i_hash.l1 (fun y0 => (kke0 y0).bind g) n all at_ words k_ = (i_hash.l1 kke0 n all at_ words k_).bind g := by
  intro n
  induction n with
  | zero => intros; rfl
  | succ n ih => intros; simp only [i_hash.l1, grd_bind, cnd_bind, bnd_bind, non_bind, ih]
def i_hash.l2 {R : Type} (kke2 : ByteArray → Option R) : Nat → ByteArray → List Int → Int → Option R
  | 0, _, _, _ => none
  | n + 1, out, l, i =>
    cond (decide (i < (8 : Int))) (
      grd (gIx i 8) <|
      (i_number (IntKind.wrap .i64 (rdE (.int .u32 : Kd) l (Int.toNat i))) (4 : Int)).bind fun r =>
      grd (gCat out r) <|
      i_hash.l2 kke2 n (out ++ r) l (IntKind.wrap .i64 (i + (1 : Int)))) (kke2 out)
theorem i_hash.l2_nat {R S : Type} (g : R → Option S) (kke2 : ByteArray → Option R) : ∀ (n : Nat) (out : ByteArray) (l : List Int) (i : Int), i_hash.l2 (fun y0 => (kke2 y0).bind g) n out l i = (i_hash.l2 kke2 n out l i).bind g := by
  intro n
  induction n with
  | zero => intros; rfl
  | succ n ih => intros; simp only [i_hash.l2, grd_bind, cnd_bind, bnd_bind, non_bind, ih]
def i_hash.F {R : Type} (kk : ByteArray → Option R) (s : ByteArray) : Option R :=
  grd (gCat s (⟨#[128]⟩ : ByteArray)) <|
  grd (gNz (64 : Int)) <|
  grd (gNz (64 : Int)) <|
  (strings_Repeat (⟨#[0]⟩ : ByteArray) (Int.tmod (IntKind.wrap .i64 ((119 : Int) - (Int.tmod (ByteArray.size s : Int) (64 : Int)))) (64 : Int))).bind fun r =>
  grd (gCat (s ++ (⟨#[128]⟩ : ByteArray)) r) <|
  (i_number (IntKind.wrap .i64 ((8 : Int) * (ByteArray.size s : Int))) (8 : Int)).bind fun r1 =>
  grd (gCat ((s ++ (⟨#[128]⟩ : ByteArray)) ++ r) r1) <|
  (i_hashWords).bind fun r2 =>
  (i_roundWords).bind fun r3 =>
  i_hash.l1 (fun words => i_hash.l2 (fun out => kk out) fuel ByteArray.empty words (0 : Int)) fuel (((s ++ (⟨#[128]⟩ : ByteArray)) ++ r) ++ r1) (0 : Int) r2 r3
theorem i_hash.F_nat {R S : Type} (g : R → Option S) (kk : ByteArray → Option R) (s : ByteArray) : i_hash.F (fun y0 => (kk y0).bind g) s = (i_hash.F kk s).bind g := by
  simp only [i_hash.F, grd_bind, cnd_bind, bnd_bind, non_bind, ← i_hash.l1_nat, ← i_hash.l2_nat]
theorem i_hash_ex : ∃ f : ByteArray → Option ByteArray, f = fun (s : ByteArray) => i_hash.F (fun y0 => some y0) s := ⟨_, rfl⟩
/-- Chosen, so that the kernel does not unfold it. -/
noncomputable def i_hash : ByteArray → Option ByteArray := Classical.choose i_hash_ex
theorem i_hash_eq (s : ByteArray) : i_hash s = i_hash.F (fun y0 => some y0) s := (congrFun (Classical.choose_spec i_hash_ex) s)
theorem i_hash_nat {S : Type} (g : ByteArray → Option S) (s : ByteArray) : i_hash.F (fun y0 => g y0) s = (i_hash s).bind g := by
  rw [i_hash_eq]
  exact i_hash.F_nat g (fun y0 => some y0) s
def i_hash.out : ByteArray → CRes := fun a => ⟨encL SV.enc [.one (.str)] (a, ()), [encL SC.enc [] ()]⟩
def i_hash.ps : List PS := [.val [none]]
def i_hash.sA : List SA := [.v (.one (.str))]
def i_hash.fi : FI := FIs i_hash.sA (ByteArray) (fun t => i_hash t.1) i_hash.out i_hash.ps
def i_hash.E : Env := ⟨tt, lkF [(95, i_number.fi), (126, strings_Repeat.fi), (127, i_hashWords.fi), (128, i_roundWords.fi), (129, i_blockHash.fi)], 51, 0, [], []⟩
def i_hash.sh1 : SK := ⟨[.v (.one (.str)), .v (.one (.aptr 0)), .v (.one (.aptr 1)), .v (.one (.int .i64))], [.vec 8 (.int .u32), .vec 64 (.int .u32)]⟩
def i_hash.sh1e0 : SK := ⟨[.v (.one (.aptr 0))], [.vec 8 (.int .u32)]⟩
def i_hash.ko1 : Ex → List CastAt × List Nat
  | .nrm => ([], [])
  | .ret => ([], [])
  | .ext i => cond (Nat.beq i 0) ([], [4]) ([], [])
def i_hash.G1 (n : Nat) (R : Type) (t : i_hash.sh1.T) (K : Ex → Kp → Option R) : Option R := i_hash.l1 (fun y0 => K (.ext 0) (SK.enc i_hash.sh1e0 (((), ()), (y0, ())))) n t.1.1 t.1.2.2.2.1 t.2.1 t.2.2.1
def i_hash.S1 : Sum := ⟨([], [3, 4, 5, 6]), sumF i_hash.sh1 (i_hash.G1 fuel), i_hash.ko1⟩
theorem i_hash.ok1 (hE : EOk Try.prog (i_hash.E)) : SumOk Try.prog i_hash.E (cB (cR (cL (cR (cR (cR (bodyOf Try.f85))))))) (i_hash.S1) := by
  have hh : HintOk Try.prog i_hash.E (cB (cB (cR (cL (cR (cR (cR (bodyOf Try.f85)))))))) (.a) := HintOk.n1 (Q := True) (by kernel_rfl) trivial
  have h := loopS (kin := ([], [3, 4, 5, 6])) (kout := i_hash.ko1) (sh := i_hash.sh1) (F := i_hash.G1) (ops_ok (hE.gv _)) (by kernel_rfl) hh (fun _ _ _ => rfl) (fun n R t K => by kernel_rfl) fuel
  exact HintOk.n1 (c := (cB (cR (cL (cR (cR (cR (bodyOf Try.f85)))))))) (h := .s (i_hash.S1)) (P := Try.prog) (E := i_hash.E) (by kernel_rfl) h
def i_hash.sh2 : SK := ⟨[.v (.one (.str)), .v (.vec 8 (.int .u32)), .v (.one (.int .i64))], []⟩
def i_hash.sh2e2 : SK := ⟨[.v (.one (.str))], []⟩
def i_hash.ko2 : Ex → List CastAt × List Nat
  | .nrm => ([], [])
  | .ret => ([], [])
  | .ext i => cond (Nat.beq i 2) ([], [7]) ([], [])
def i_hash.G2 (n : Nat) (R : Type) (t : i_hash.sh2.T) (K : Ex → Kp → Option R) : Option R := i_hash.l2 (fun y0 => K (.ext 2) (SK.enc i_hash.sh2e2 ((y0, ()), ()))) n t.1.1 t.1.2.1 t.1.2.2.1
def i_hash.S2 : Sum := ⟨([], [7, 40, 41]), sumF i_hash.sh2 (i_hash.G2 fuel), i_hash.ko2⟩
theorem i_hash.ok2 (hE : EOk Try.prog (i_hash.E)) : SumOk Try.prog i_hash.E (cB (cR (cL (cR (cR (cR (cR (cR (bodyOf Try.f85))))))))) (i_hash.S2) := by
  have hh : HintOk Try.prog i_hash.E (cB (cB (cR (cL (cR (cR (cR (cR (cR (bodyOf Try.f85)))))))))) (.a) := HintOk.n1 (Q := True) (by kernel_rfl) trivial
  have h := loopS (kin := ([], [7, 40, 41])) (kout := i_hash.ko2) (sh := i_hash.sh2) (F := i_hash.G2) (ops_ok (hE.gv _)) (by kernel_rfl) hh (fun _ _ _ => rfl) (fun n R t K => by kernel_rfl) fuel
  exact HintOk.n1 (c := (cB (cR (cL (cR (cR (cR (cR (cR (bodyOf Try.f85)))))))))) (h := .s (i_hash.S2)) (P := Try.prog) (E := i_hash.E) (by kernel_rfl) h
theorem i_hash.hok (hE : EOk Try.prog (i_hash.E)) : HintOk Try.prog i_hash.E (bodyOf Try.f85) (.n (.a) (.n (.a) (.n (.a) (.n (.n (.a) (.b (.s (i_hash.S1)))) (.n (.a) (.n (.n (.a) (.b (.s (i_hash.S2)))) (.a))))))) := HintOk.n1 (Q := (True) ∧ ((True) ∧ ((True) ∧ (((True) ∧ (SumOk Try.prog i_hash.E (cB (cR (cL (cR (cR (cR (bodyOf Try.f85))))))) (i_hash.S1))) ∧ ((True) ∧ (((True) ∧ (SumOk Try.prog i_hash.E (cB (cR (cL (cR (cR (cR (cR (cR (bodyOf Try.f85))))))))) (i_hash.S2))) ∧ (True))))))) (by kernel_rfl) ⟨trivial, ⟨trivial, ⟨trivial, ⟨⟨trivial, (i_hash.ok1 hE)⟩, ⟨trivial, ⟨⟨trivial, (i_hash.ok2 hE)⟩, trivial⟩⟩⟩⟩⟩⟩
theorem i_hash.hE : EOk Try.prog (i_hash.E) := EOk.of ttOk (⟨i_number.fok, ⟨strings_Repeat.fok, ⟨i_hashWords.fok, ⟨i_roundWords.fok, ⟨i_blockHash.fok, trivial⟩⟩⟩⟩⟩)
theorem i_hash.fok : FOk Try.prog 85 i_hash.fi :=
  fokS (E := i_hash.E) (wy := ⟨[[none]], [[]], []⟩) (h := (fun gs => .n (.a) (.n (.a) (.n (.a) (.n (.n (.a) (.b (.s (i_hash.S1)))) (.n (.a) (.n (.n (.a) (.b (.s (i_hash.S2)))) (.a)))))))) (G := fun t g => i_hash.F (fun y0 => g y0) t.1) (by kernel_rfl) i_hash.hE Try.func85 (by kernel_rfl) rfl (Nat.le_refl _) (fun t => HintOk.n1 (by kernel_rfl) (i_hash.hok i_hash.hE)) (fun t g => i_hash_nat g t.1) (fun t => by kernel_rfl)
/-! loop.example_g00220_impl.nodeHash -/
def i_nodeHash.F {R : Type} (kk : ByteArray → Option R) (left : ByteArray) (right : ByteArray) : Option R :=
  grd (gCat (⟨#[1]⟩ : ByteArray) left) <|
  grd (gCat ((⟨#[1]⟩ : ByteArray) ++ left) right) <|
  (i_hash (((⟨#[1]⟩ : ByteArray) ++ left) ++ right)).bind fun r =>
  kk r
theorem i_nodeHash.F_nat {R S : Type} (g : R → Option S) (kk : ByteArray → Option R) (left : ByteArray) (right : ByteArray) : i_nodeHash.F (fun y0 => (kk y0).bind g) left right = (i_nodeHash.F kk left right).bind g := by
  simp only [i_nodeHash.F, grd_bind, cnd_bind, bnd_bind, non_bind]
def i_nodeHash (left : ByteArray) (right : ByteArray) : Option ByteArray := i_nodeHash.F (fun y0 => some y0) left right
theorem i_nodeHash_nat {S : Type} (g : ByteArray → Option S) (left : ByteArray) (right : ByteArray) : i_nodeHash.F (fun y0 => g y0) left right = (i_nodeHash left right).bind g := i_nodeHash.F_nat g (fun y0 => some y0) left right
def i_nodeHash.out : ByteArray → CRes := fun a => ⟨encL SV.enc [.one (.str)] (a, ()), [encL SC.enc [] (), encL SC.enc [] ()]⟩
def i_nodeHash.ps : List PS := [.val [none], .val [none]]
def i_nodeHash.sA : List SA := [.v (.one (.str)), .v (.one (.str))]
def i_nodeHash.fi : FI := FIs i_nodeHash.sA (ByteArray) (fun t => i_nodeHash t.1 t.2.1) i_nodeHash.out i_nodeHash.ps
def i_nodeHash.E : Env := ⟨tt, lkF [(85, i_hash.fi)], 10, 0, [], []⟩
theorem i_nodeHash.hok (hE : EOk Try.prog (i_nodeHash.E)) : HintOk Try.prog i_nodeHash.E (bodyOf Try.f168) (.a) := HintOk.n1 (Q := True) (by kernel_rfl) trivial
theorem i_nodeHash.hE : EOk Try.prog (i_nodeHash.E) := EOk.of ttOk (⟨i_hash.fok, trivial⟩)
theorem i_nodeHash.fok : FOk Try.prog 168 i_nodeHash.fi :=
  fokS (E := i_nodeHash.E) (wy := ⟨[[none]], [[], []], []⟩) (h := (fun gs => .a)) (G := fun t g => i_nodeHash.F (fun y0 => g y0) t.1 t.2.1) (by kernel_rfl) i_nodeHash.hE Try.func168 (by kernel_rfl) rfl (Nat.le_refl _) (fun t => HintOk.n1 (by kernel_rfl) (i_nodeHash.hok i_nodeHash.hE)) (fun t g => i_nodeHash_nat g t.1 t.2.1) (fun t => by kernel_rfl)
/-! __loop.example_g00220_impl.prover_.node -/
def i_prover_node.F {R : Type} (kk : ByteArray → List ByteArray → Bool → List ByteArray → Option R) (p_proof : List ByteArray) (p_bad : Bool) (p_steps : List ByteArray) (left : ByteArray) (right : ByteArray) : Option R :=
  grd (gCat (⟨#[1]⟩ : ByteArray) left) <|
  grd (gCat ((⟨#[1]⟩ : ByteArray) ++ left) right) <|
  grd (gRm (((List.length p_steps) + (List.length ([((⟨#[1]⟩ : ByteArray) ++ left) ++ right]))) * 16)) <|
  (i_nodeHash left right).bind fun r =>
  kk r p_proof p_bad (p_steps ++ ([((⟨#[1]⟩ : ByteArray) ++ left) ++ right]))
theorem i_prover_node.F_nat {R S : Type} (g : R → Option S) (kk : ByteArray → List ByteArray → Bool → List ByteArray → Option R) (p_proof : List ByteArray) (p_bad : Bool) (p_steps : List ByteArray) (left : ByteArray) (right : ByteArray) : i_prover_node.F (fun y0 y1 y2 y3 => (kk y0 y1 y2 y3).bind g) p_proof p_bad p_steps left right = (i_prover_node.F kk p_proof p_bad p_steps left right).bind g := by
  simp only [i_prover_node.F, grd_bind, cnd_bind, bnd_bind, non_bind]
def i_prover_node (p_proof : List ByteArray) (p_bad : Bool) (p_steps : List ByteArray) (left : ByteArray) (right : ByteArray) : Option (ByteArray × List ByteArray × Bool × List ByteArray) := i_prover_node.F (fun y0 y1 y2 y3 => some (y0, y1, y2, y3)) p_proof p_bad p_steps left right
theorem i_prover_node_nat {S : Type} (g : (ByteArray × List ByteArray × Bool × List ByteArray) → Option S) (p_proof : List ByteArray) (p_bad : Bool) (p_steps : List ByteArray) (left : ByteArray) (right : ByteArray) : i_prover_node.F (fun y0 y1 y2 y3 => g (y0, y1, y2, y3)) p_proof p_bad p_steps left right = (i_prover_node p_proof p_bad p_steps left right).bind g := i_prover_node.F_nat g (fun y0 y1 y2 y3 => some (y0, y1, y2, y3)) p_proof p_bad p_steps left right
def i_prover_node.out : (ByteArray × List ByteArray × Bool × List ByteArray) → CRes := fun a => ⟨encL SV.enc [.one (.str)] (a.1, ()), [encL SC.enc [.slv [1] .str, .bool, .own [] .str true] (a.2.1, a.2.2.1, a.2.2.2, ()), encL SC.enc [] (), encL SC.enc [] ()]⟩
def i_prover_node.ps : List PS := [.ptr [some (.str, false), none, some (.str, true)], .val [none], .val [none]]
def i_prover_node.sA : List SA := [.ptr [.slv [] .str, .bool, .own [] .str true], .v (.one (.str)), .v (.one (.str))]
def i_prover_node.fi : FI := FIs i_prover_node.sA (ByteArray × List ByteArray × Bool × List ByteArray) (fun t => i_prover_node t.1.1 t.1.2.1 t.1.2.2.1 t.2.1 t.2.2.1) i_prover_node.out i_prover_node.ps
def i_prover_node.E : Env := ⟨tt, lkF [(168, i_nodeHash.fi)], 23, 2, [], []⟩
theorem i_prover_node.hok (hE : EOk Try.prog (i_prover_node.E)) : HintOk Try.prog i_prover_node.E (bodyOf Try.f148) (.a) := HintOk.n1 (Q := True) (by kernel_rfl) trivial
theorem i_prover_node.hE : EOk Try.prog (i_prover_node.E) := EOk.of ttOk (⟨i_nodeHash.fok, trivial⟩)
theorem i_prover_node.fok : FOk Try.prog 148 i_prover_node.fi :=
  fokS (E := i_prover_node.E) (wy := ⟨[[none]], [[some (.str, false), none, some (.str, true)], [], []], []⟩) (h := (fun gs => .a)) (G := fun t g => i_prover_node.F (fun y0 y1 y2 y3 => g (y0, y1, y2, y3)) t.1.1 t.1.2.1 t.1.2.2.1 t.2.1 t.2.2.1) (by kernel_rfl) i_prover_node.hE Try.func148 (by kernel_rfl) rfl (Nat.le_refl _) (fun t => HintOk.n1 (by kernel_rfl) (i_prover_node.hok i_prover_node.hE)) (fun t g => i_prover_node_nat g t.1.1 t.1.2.1 t.1.2.2.1 t.2.1 t.2.2.1) (fun t => by kernel_rfl)
/-! __loop.example_g00220_impl.prover_.next -/
def i_prover_next.F {R : Type} (kk : ByteArray → List ByteArray → Bool → List ByteArray → Option R) (p_proof : List ByteArray) (p_bad : Bool) (p_steps : List ByteArray) : Option R :=
  cond ((List.length p_proof : Int) == (0 : Int)) (kk ByteArray.empty p_proof true p_steps) (
    grd (gIx (0 : Int) (List.length p_proof)) <|
    grd (gSl (1 : Int) (List.length p_proof : Int) (List.length p_proof)) <|
    kk (rdE (.str : Kd) p_proof (Int.toNat (0 : Int))) (sub p_proof (1 : Int) (List.length p_proof : Int)) p_bad p_steps)
theorem i_prover_next.F_nat {R S : Type} (g : R → Option S) (kk : ByteArray → List ByteArray → Bool → List ByteArray → Option R) (p_proof : List ByteArray) (p_bad : Bool) (p_steps : List ByteArray) : i_prover_next.F (fun y0 y1 y2 y3 => (kk y0 y1 y2 y3).bind g) p_proof p_bad p_steps = (i_prover_next.F kk p_proof p_bad p_steps).bind g := by
  simp only [i_prover_next.F, grd_bind, cnd_bind, bnd_bind, non_bind]
def i_prover_next (p_proof : List ByteArray) (p_bad : Bool) (p_steps : List ByteArray) : Option (ByteArray × List ByteArray × Bool × List ByteArray) := i_prover_next.F (fun y0 y1 y2 y3 => some (y0, y1, y2, y3)) p_proof p_bad p_steps
theorem i_prover_next_nat {S : Type} (g : (ByteArray × List ByteArray × Bool × List ByteArray) → Option S) (p_proof : List ByteArray) (p_bad : Bool) (p_steps : List ByteArray) : i_prover_next.F (fun y0 y1 y2 y3 => g (y0, y1, y2, y3)) p_proof p_bad p_steps = (i_prover_next p_proof p_bad p_steps).bind g := i_prover_next.F_nat g (fun y0 y1 y2 y3 => some (y0, y1, y2, y3)) p_proof p_bad p_steps
def i_prover_next.out : (ByteArray × List ByteArray × Bool × List ByteArray) → CRes := fun a => ⟨encL SV.enc [.one (.str)] (a.1, ()), [encL SC.enc [.slv [1] .str, .bool, .own [] .str true] (a.2.1, a.2.2.1, a.2.2.2, ())]⟩
def i_prover_next.ps : List PS := [.ptr [some (.str, false), none, some (.str, true)]]
def i_prover_next.sA : List SA := [.ptr [.slv [] .str, .bool, .own [] .str true]]
def i_prover_next.fi : FI := FIs i_prover_next.sA (ByteArray × List ByteArray × Bool × List ByteArray) (fun t => i_prover_next t.1.1 t.1.2.1 t.1.2.2.1) i_prover_next.out i_prover_next.ps
def i_prover_next.E : Env := ⟨tt, lkF [], 28, 2, [], []⟩
theorem i_prover_next.hok (hE : EOk Try.prog (i_prover_next.E)) : HintOk Try.prog i_prover_next.E (bodyOf Try.f149) (.a) := HintOk.n1 (Q := True) (by kernel_rfl) trivial
theorem i_prover_next.hE : EOk Try.prog (i_prover_next.E) := EOk.of ttOk (trivial)
theorem i_prover_next.fok : FOk Try.prog 149 i_prover_next.fi :=
  fokS (E := i_prover_next.E) (wy := ⟨[[none]], [[some (.str, false), none, some (.str, true)]], []⟩) (h := (fun gs => .a)) (G := fun t g => i_prover_next.F (fun y0 y1 y2 y3 => g (y0, y1, y2, y3)) t.1.1 t.1.2.1 t.1.2.2.1) (by kernel_rfl) i_prover_next.hE Try.func149 (by kernel_rfl) rfl (Nat.le_refl _) (fun t => HintOk.n1 (by kernel_rfl) (i_prover_next.hok i_prover_next.hE)) (fun t g => i_prover_next_nat g t.1.1 t.1.2.1 t.1.2.2.1) (fun t => by kernel_rfl)
/-! __loop.example_g00220_impl.prover_.inclusion -/
def i_prover_inclusion.F {R : Type} (rc : List ByteArray → Bool → List ByteArray → ByteArray → Int → Int → Option (ByteArray × List ByteArray × Bool × List ByteArray)) (kk : ByteArray → List ByteArray → Bool → List ByteArray → Option R) (p_proof : List ByteArray) (p_bad : Bool) (p_steps : List ByteArray) (leaf : ByteArray) (at_ : Int) (size : Int) : Option R :=
  cond (decide (size ≤ (1 : Int))) (kk leaf p_proof p_bad p_steps) (
    (i_split size).bind fun r =>
    cond (decide (at_ < r)) (
      (rc p_proof p_bad p_steps leaf at_ r).bind fun r1 =>
      (i_prover_next r1.2.1 r1.2.2.1 r1.2.2.2).bind fun r2 =>
      (i_prover_node r2.2.1 r2.2.2.1 r2.2.2.2 r1.1 r2.1).bind fun r3 =>
      kk r3.1 r3.2.1 r3.2.2.1 r3.2.2.2) (
      (rc p_proof p_bad p_steps leaf (IntKind.wrap .i64 (at_ - r)) (IntKind.wrap .i64 (size - r))).bind fun r4 =>
      (i_prover_next r4.2.1 r4.2.2.1 r4.2.2.2).bind fun r5 =>
      (i_prover_node r5.2.1 r5.2.2.1 r5.2.2.2 r5.1 r4.1).bind fun r6 =>
      kk r6.1 r6.2.1 r6.2.2.1 r6.2.2.2))
theorem i_prover_inclusion.F_nat {R S : Type} (g : R → Option S) (rc : List ByteArray → Bool → List ByteArray → ByteArray → Int → Int → Option (ByteArray × List ByteArray × Bool × List ByteArray)) (kk : ByteArray → List ByteArray → Bool → List ByteArray → Option R) (p_proof : List ByteArray) (p_bad : Bool) (p_steps : List ByteArray) (leaf : ByteArray) (at_ : Int) (size : Int) : i_prover_inclusion.F rc (fun y0 y1 y2 y3 => (kk y0 y1 y2 y3).bind g) p_proof p_bad p_steps leaf at_ size = (i_prover_inclusion.F rc kk p_proof p_bad p_steps leaf at_ size).bind g := by
  simp only [i_prover_inclusion.F, grd_bind, cnd_bind, bnd_bind, non_bind]
def i_prover_inclusion : Nat → List ByteArray → Bool → List ByteArray → ByteArray → Int → Int → Option (ByteArray × List ByteArray × Bool × List ByteArray)
  | 0, _, _, _, _, _, _ => none
  | fu + 1, p_proof, p_bad, p_steps, leaf, at_, size => i_prover_inclusion.F (i_prover_inclusion fu) (fun y0 y1 y2 y3 => some (y0, y1, y2, y3)) p_proof p_bad p_steps leaf at_ size
theorem i_prover_inclusion_nat {S : Type} (fu : Nat) (g : (ByteArray × List ByteArray × Bool × List ByteArray) → Option S) (p_proof : List ByteArray) (p_bad : Bool) (p_steps : List ByteArray) (leaf : ByteArray) (at_ : Int) (size : Int) : i_prover_inclusion.F (i_prover_inclusion fu) (fun y0 y1 y2 y3 => g (y0, y1, y2, y3)) p_proof p_bad p_steps leaf at_ size = (i_prover_inclusion (fu + 1) p_proof p_bad p_steps leaf at_ size).bind g := i_prover_inclusion.F_nat g (i_prover_inclusion fu) (fun y0 y1 y2 y3 => some (y0, y1, y2, y3)) p_proof p_bad p_steps leaf at_ size
def i_prover_inclusion.out : (ByteArray × List ByteArray × Bool × List ByteArray) → CRes := fun a => ⟨encL SV.enc [.one (.str)] (a.1, ()), [encL SC.enc [.slv [1] .str, .bool, .own [] .str true] (a.2.1, a.2.2.1, a.2.2.2, ()), encL SC.enc [] (), encL SC.enc [] (), encL SC.enc [] ()]⟩
def i_prover_inclusion.ps : List PS := [.ptr [some (.str, false), none, some (.str, true)], .val [none], .val [none], .val [none]]
def i_prover_inclusion.sA : List SA := [.ptr [.slv [] .str, .bool, .own [] .str true], .v (.one (.str)), .v (.one (.int .i64)), .v (.one (.int .i64))]
def i_prover_inclusion.fi (fu : Nat) : FI := FIs i_prover_inclusion.sA (ByteArray × List ByteArray × Bool × List ByteArray) (fun t => i_prover_inclusion fu t.1.1 t.1.2.1 t.1.2.2.1 t.2.1 t.2.2.1 t.2.2.2.1) i_prover_inclusion.out i_prover_inclusion.ps
def i_prover_inclusion.E (fu : Nat) : Env := ⟨tt, lkF [(119, i_prover_inclusion.fi fu), (147, i_split.fi), (148, i_prover_node.fi), (149, i_prover_next.fi)], 44, 2, [], []⟩
theorem i_prover_inclusion.hok (fu : Nat) (hE : EOk Try.prog (i_prover_inclusion.E fu)) : HintOk Try.prog (i_prover_inclusion.E fu) (bodyOf Try.f119) (.a) := HintOk.n1 (Q := True) (by kernel_rfl) trivial
theorem i_prover_inclusion.fok0 : FOk Try.prog 119 (i_prover_inclusion.fi 0) := FOk.zero ⟨_, _, Try.func119, by kernel_rfl, rfl⟩ (fun _ => rfl)
theorem i_prover_inclusion.fok1 (fu : Nat) (ih : FOk Try.prog 119 (i_prover_inclusion.fi fu)) : FOk Try.prog 119 (i_prover_inclusion.fi (fu + 1)) := by
  have hE : EOk Try.prog (i_prover_inclusion.E fu) := EOk.of ttOk (⟨ih, ⟨i_split.fok, ⟨i_prover_node.fok, ⟨i_prover_next.fok, trivial⟩⟩⟩⟩)
  exact fokS (E := i_prover_inclusion.E fu) (wy := ⟨[[none]], [[some (.str, false), none, some (.str, true)], [], [], []], []⟩) (h := (fun gs => .a)) (G := fun t g => i_prover_inclusion.F (i_prover_inclusion fu) (fun y0 y1 y2 y3 => g (y0, y1, y2, y3)) t.1.1 t.1.2.1 t.1.2.2.1 t.2.1 t.2.2.1 t.2.2.2.1) (by kernel_rfl) hE Try.func119 (by kernel_rfl) rfl (Nat.le_refl _) (fun t => HintOk.n1 (by kernel_rfl) (i_prover_inclusion.hok fu hE)) (fun t g => i_prover_inclusion_nat fu g t.1.1 t.1.2.1 t.1.2.2.1 t.2.1 t.2.2.1 t.2.2.2.1) (fun t => by kernel_rfl)
theorem i_prover_inclusion.fok (fu : Nat) : FOk Try.prog 119 (i_prover_inclusion.fi fu) := Nat.rec i_prover_inclusion.fok0 i_prover_inclusion.fok1 fu
/-! loop.example_g00220_impl.inclusionRoot -/
def i_inclusionRoot.F {R : Type} (kk : ByteArray → List ByteArray → Int → Option R) (leaf : ByteArray) (at_ : Int) (size : Int) (proof : List ByteArray) : Option R :=
  (i_within size (1 : Int) (64 : Int)).bind fun r =>
  cond (!r) (kk ByteArray.empty [] (4 : Int)) (
    (i_within at_ (0 : Int) (IntKind.wrap .i64 (size - (1 : Int)))).bind fun r1 =>
    cond (!r1) (kk ByteArray.empty [] (4 : Int)) (
      (i_prover_inclusion fuel proof false [] leaf at_ size).bind fun r2 =>
      cond (r2.2.2.1) (kk ByteArray.empty [] (10 : Int)) (
        cond (decide ((List.length r2.2.1 : Int) > (0 : Int))) (kk ByteArray.empty [] (10 : Int)) (kk r2.1 r2.2.2.2 (0 : Int)))))
theorem i_inclusionRoot.F_nat {R S : Type} (g : R → Option S) (kk : ByteArray → List ByteArray → Int → Option R) (leaf : ByteArray) (at_ : Int) (size : Int) (proof : List ByteArray) : i_inclusionRoot.F (fun y0 y1 y2 => (kk y0 y1 y2).bind g) leaf at_ size proof = (i_inclusionRoot.F kk leaf at_ size proof).bind g := by
  simp only [i_inclusionRoot.F, grd_bind, cnd_bind, bnd_bind, non_bind]
def i_inclusionRoot (leaf : ByteArray) (at_ : Int) (size : Int) (proof : List ByteArray) : Option (ByteArray × List ByteArray × Int) := i_inclusionRoot.F (fun y0 y1 y2 => some (y0, y1, y2)) leaf at_ size proof
theorem i_inclusionRoot_nat {S : Type} (g : (ByteArray × List ByteArray × Int) → Option S) (leaf : ByteArray) (at_ : Int) (size : Int) (proof : List ByteArray) : i_inclusionRoot.F (fun y0 y1 y2 => g (y0, y1, y2)) leaf at_ size proof = (i_inclusionRoot leaf at_ size proof).bind g := i_inclusionRoot.F_nat g (fun y0 y1 y2 => some (y0, y1, y2)) leaf at_ size proof
def i_inclusionRoot.out : (ByteArray × List ByteArray × Int) → CRes := fun a => ⟨encL SV.enc [.one (.str), .one (.own [] .str true), .one (.int .i64)] (a.1, a.2.1, a.2.2, ()), [encL SC.enc [] (), encL SC.enc [] (), encL SC.enc [] (), encL SC.enc [] ()]⟩
def i_inclusionRoot.ps : List PS := [.val [none], .val [none], .val [none], .val [some (.str, false)]]
def i_inclusionRoot.sA : List SA := [.v (.one (.str)), .v (.one (.int .i64)), .v (.one (.int .i64)), .v (.one (.slv [] .str))]
def i_inclusionRoot.fi : FI := FIs i_inclusionRoot.sA (ByteArray × List ByteArray × Int) (fun t => i_inclusionRoot t.1 t.2.1 t.2.2.1 t.2.2.2.1) i_inclusionRoot.out i_inclusionRoot.ps
def i_inclusionRoot.E : Env := ⟨tt, lkF [(79, i_within.fi), (119, i_prover_inclusion.fi fuel)], 48, 0, [], []⟩
theorem i_inclusionRoot.hok (hE : EOk Try.prog (i_inclusionRoot.E)) : HintOk Try.prog i_inclusionRoot.E (bodyOf Try.f73) (.a) := HintOk.n1 (Q := True) (by kernel_rfl) trivial
theorem i_inclusionRoot.hE : EOk Try.prog (i_inclusionRoot.E) := EOk.of ttOk (⟨i_within.fok, ⟨i_prover_inclusion.fok fuel, trivial⟩⟩)
theorem i_inclusionRoot.fok : FOk Try.prog 73 i_inclusionRoot.fi :=
  fokS (E := i_inclusionRoot.E) (wy := ⟨[[none], [some (.str, true)], [none]], [[], [], [], []], []⟩) (h := (fun gs => .a)) (G := fun t g => i_inclusionRoot.F (fun y0 y1 y2 => g (y0, y1, y2)) t.1 t.2.1 t.2.2.1 t.2.2.2.1) (by kernel_rfl) i_inclusionRoot.hE Try.func73 (by kernel_rfl) rfl (Nat.le_refl _) (fun t => HintOk.n1 (by kernel_rfl) (i_inclusionRoot.hok i_inclusionRoot.hE)) (fun t g => i_inclusionRoot_nat g t.1 t.2.1 t.2.2.1 t.2.2.2.1) (fun t => by kernel_rfl)
/-! loop.example_g00220_impl.Collision -/
def i_Collision.j1 {R : Type} (kkn : ByteArray → Int → ByteArray → Int → Bool → ByteArray → ByteArray → Int → List ByteArray → List ByteArray → Option R) (rootA : ByteArray) (codeA : Int) (rootB : ByteArray) (codeB : Int) (s : ByteArray) (s1 : ByteArray) (i : Int) (stepsA : List ByteArray) (l : List ByteArray) : Option R :=
  cond (codeA != (0 : Int)) (kkn rootA codeA rootB codeB true s s1 i stepsA l) (kkn rootA codeA rootB codeB (codeB != (0 : Int)) s s1 i stepsA l)
theorem i_Collision.j1_nat {R S : Type} (g : R → Option S) (kkn : ByteArray → Int → ByteArray → Int → Bool → ByteArray → ByteArray → Int → List ByteArray → List ByteArray → Option R) (rootA : ByteArray) (codeA : Int) (rootB : ByteArray) (codeB : Int) (s : ByteArray) (s1 : ByteArray) (i : Int) (stepsA : List ByteArray) (l : List ByteArray) : i_Collision.j1 (fun y0 y1 y2 y3 y4 y5 y6 y7 y8 y9 => (kkn y0 y1 y2 y3 y4 y5 y6 y7 y8 y9).bind g) rootA codeA rootB codeB s s1 i stepsA l = (i_Collision.j1 kkn rootA codeA rootB codeB s s1 i stepsA l).bind g := by
  simp only [i_Collision.j1, grd_bind, cnd_bind, bnd_bind, non_bind]
def i_Collision.b2 {R : Type} (kkn : ByteArray → ByteArray → Int → Option R) (kkr : ByteArray → ByteArray → Int → Option R) : Nat → List ByteArray → ByteArray → ByteArray → Int → List ByteArray → Option R
  | 0, l, s, s1, i, l1 =>
    kkn s s1 i
  | kj + 1, l, s, s1, i, l1 =>
    grd (gIx (kj : Int) (List.length l1)) <|
    cond (!(sEq (rdE (.str : Kd) l kj) (rdE (.str : Kd) l1 (Int.toNat (kj : Int))))) (
      grd (gIx (kj : Int) (List.length l1)) <|
      kkr (rdE (.str : Kd) l kj) (rdE (.str : Kd) l1 (Int.toNat (kj : Int))) (0 : Int)) (i_Collision.b2 kkn kkr kj l s s1 i l1)
theorem i_Collision.b2_nat {R S : Type} (g : R → Option S) (kkn : ByteArray → ByteArray → Int → Option R) (kkr : ByteArray → ByteArray → Int → Option R) : ∀ (n : Nat) (l : List ByteArray) (s : ByteArray) (s1 : ByteArray) (i : Int) (l1 : List ByteArray), i_Collision.b2 (fun y0 y1 y2 => (kkn y0 y1 y2).bind g) (fun y0 y1 y2 => (kkr y0 y1 y2).bind g) n l s s1 i l1 = (i_Collision.b2 kkn kkr n l s s1 i l1).bind g := by
  intro n
  induction n with
  | zero => intros; simp only [i_Collision.b2, grd_bind, cnd_bind, bnd_bind, non_bind]
  | succ n ih => intros; simp only [i_Collision.b2, grd_bind, cnd_bind, bnd_bind, non_bind, ih]
def i_Collision.F {R : Type} (kk : ByteArray → ByteArray → Int → Option R) (at_ : Int) (size : Int) (leafA : ByteArray) (proofA : List ByteArray) (leafB : ByteArray) (proofB : List ByteArray) : Option R :=
  (i_isList_string proofA).bind fun r =>
  cond (!r) (kk ByteArray.empty ByteArray.empty (2 : Int)) (
    (i_isList_string proofB).bind fun r1 =>
    cond (!r1) (kk ByteArray.empty ByteArray.empty (2 : Int)) (
      (i_isText [leafA, leafB]).bind fun r2 =>
      cond (!r2) (kk ByteArray.empty ByteArray.empty (2 : Int)) (
        (i_proofCode proofA [leafA]).bind fun r3 =>
        cond (r3 != (0 : Int)) (kk ByteArray.empty ByteArray.empty (1 : Int)) (
          (i_proofCode proofB [leafB]).bind fun r4 =>
          cond (r4 != (0 : Int)) (kk ByteArray.empty ByteArray.empty (1 : Int)) (
            (i_inclusionRoot leafA at_ size proofA).bind fun r5 =>
            (i_inclusionRoot leafB at_ size proofB).bind fun r6 =>
            i_Collision.j1 (fun rootA codeA rootB codeB b s s1 i stepsA l =>
              cond (b) (kk ByteArray.empty ByteArray.empty (mx2 codeA codeB)) (
                cond (!(sEq rootA rootB)) (kk ByteArray.empty ByteArray.empty (11 : Int)) (
                  grd (decide (List.length stepsA * 16 ≤ 140737488351232)) <|
                  i_Collision.b2 (fun s2 s3 i1 => kk ByteArray.empty ByteArray.empty (5 : Int)) (fun s4 s5 i2 => kk s4 s5 i2) (List.length stepsA) stepsA s s1 i l))) r5.1 r5.2.2 r6.1 r6.2.2 ByteArray.empty ByteArray.empty (0 : Int) r5.2.1 r6.2.1)))))
theorem i_Collision.F_nat {R S : Type} (g : R → Option S) (kk : ByteArray → ByteArray → Int → Option R) (at_ : Int) (size : Int) (leafA : ByteArray) (proofA : List ByteArray) (leafB : ByteArray) (proofB : List ByteArray) : i_Collision.F (fun y0 y1 y2 => (kk y0 y1 y2).bind g) at_ size leafA proofA leafB proofB = (i_Collision.F kk at_ size leafA proofA leafB proofB).bind g := by
  simp only [i_Collision.F, grd_bind, cnd_bind, bnd_bind, non_bind, ← i_Collision.j1_nat, ← i_Collision.b2_nat]
def i_Collision (at_ : Int) (size : Int) (leafA : ByteArray) (proofA : List ByteArray) (leafB : ByteArray) (proofB : List ByteArray) : Option (ByteArray × ByteArray × Int) := i_Collision.F (fun y0 y1 y2 => some (y0, y1, y2)) at_ size leafA proofA leafB proofB
theorem i_Collision_nat {S : Type} (g : (ByteArray × ByteArray × Int) → Option S) (at_ : Int) (size : Int) (leafA : ByteArray) (proofA : List ByteArray) (leafB : ByteArray) (proofB : List ByteArray) : i_Collision.F (fun y0 y1 y2 => g (y0, y1, y2)) at_ size leafA proofA leafB proofB = (i_Collision at_ size leafA proofA leafB proofB).bind g := i_Collision.F_nat g (fun y0 y1 y2 => some (y0, y1, y2)) at_ size leafA proofA leafB proofB
def i_Collision.out : (ByteArray × ByteArray × Int) → CRes := fun a => ⟨encL SV.enc [.one (.str), .one (.str), .one (.int .i64)] (a.1, a.2.1, a.2.2, ()), [encL SC.enc [] (), encL SC.enc [] (), encL SC.enc [] (), encL SC.enc [] (), encL SC.enc [] (), encL SC.enc [] ()]⟩
def i_Collision.ps : List PS := [.val [none], .val [none], .val [none], .val [some (.str, false)], .val [none], .val [some (.str, false)]]
def i_Collision.sA : List SA := [.v (.one (.int .i64)), .v (.one (.int .i64)), .v (.one (.str)), .v (.one (.slv [] .str)), .v (.one (.str)), .v (.one (.slv [] .str))]
def i_Collision.fi : FI := FIs i_Collision.sA (ByteArray × ByteArray × Int) (fun t => i_Collision t.1 t.2.1 t.2.2.1 t.2.2.2.1 t.2.2.2.2.1 t.2.2.2.2.2.1) i_Collision.out i_Collision.ps
def i_Collision.E : Env := ⟨tt, lkF [(62, i_isList_string.fi), (71, i_isText.fi), (72, i_proofCode.fi), (73, i_inclusionRoot.fi)], 97, 0, [], []⟩
def i_Collision.sh1 : SK := ⟨[.v (.one (.bptr 0 0)), .v (.one (.bptr 1 0)), .v (.one (.bptr 2 0)), .v (.one (.str)), .v (.one (.slo 3)), .v (.one (.int .i64)), .v (.one (.str)), .v (.one (.bptr 4 0)), .v (.one (.int .i64))], [.box [.str], .box [.str], .box [.int .i64], .arr .str [] true, .box [.slo 5], .arr .str [] true]⟩
def i_Collision.sh1n : SK := ⟨[.v (.one (.bptr 0 0)), .v (.one (.bptr 1 0)), .v (.one (.bptr 2 0)), .v (.one (.str)), .v (.one (.slo 3)), .v (.one (.int .i64)), .v (.one (.str)), .v (.one (.bptr 4 0)), .v (.one (.int .i64)), .v (.one (.bool))], [.box [.str], .box [.str], .box [.int .i64], .arr .str [] true, .box [.slo 5], .arr .str [] true]⟩
def i_Collision.ko1 : Ex → List CastAt × List Nat
  | .nrm => ([], [12, 13, 14, 15, 16, 17, 18, 19, 20, 68])
  | .ret => ([], [])
  | .ext i => ([], [])
def i_Collision.G1 (R : Type) (t : i_Collision.sh1.T) (K : Ex → Kp → Option R) : Option R := i_Collision.j1 (fun y0 y1 y2 y3 y4 y5 y6 y7 y8 y9 => K .nrm (SK.enc i_Collision.sh1n (((), (), (), y0, (), y1, y2, (), y3, y4, ()), ((y5, ()), (y6, ()), (y7, ()), y8, ((), ()), y9, ())))) t.1.2.2.2.1 t.1.2.2.2.2.2.1 t.1.2.2.2.2.2.2.1 t.1.2.2.2.2.2.2.2.2.1 t.2.1.1 t.2.2.1.1 t.2.2.2.1.1 t.2.2.2.2.1 t.2.2.2.2.2.2.1
def i_Collision.S1 : Sum := ⟨([], [12, 13, 14, 15, 16, 17, 18, 19, 20]), sumF i_Collision.sh1 (i_Collision.G1), i_Collision.ko1⟩
theorem i_Collision.ok1 (hE : EOk Try.prog (i_Collision.E)) : SumOk Try.prog i_Collision.E (cL (cB (cL (cR (cR (cR (cR (cR (bodyOf Try.f29))))))))) (i_Collision.S1) := by
  have hh : HintOk Try.prog i_Collision.E (cL (cB (cL (cR (cR (cR (cR (cR (bodyOf Try.f29))))))))) (.a) := HintOk.n1 (Q := True) (by kernel_rfl) trivial
  exact sumS (kin := ([], [12, 13, 14, 15, 16, 17, 18, 19, 20])) (kout := i_Collision.ko1) (sh := i_Collision.sh1) (F := i_Collision.G1) (ops_ok (hE.gv _)) (by kernel_rfl) hh (fun R t K => by kernel_rfl)
def i_Collision.sh2 : SK := ⟨[.v (.one (.bptr 0 0)), .v (.one (.bptr 1 0)), .v (.one (.bptr 2 0)), .v (.one (.bptr 3 0)), .v (.one (.slv [0] .str))], [.box [.str], .box [.str], .box [.int .i64], .box [.slo 4], .arr .str [] true]⟩
def i_Collision.sh2n : SK := ⟨[.v (.one (.bptr 0 0)), .v (.one (.bptr 1 0)), .v (.one (.bptr 2 0))], [.box [.str], .box [.str], .box [.int .i64]]⟩
def i_Collision.sh2r : SK := ⟨[.v (.one (.bptr 0 0)), .v (.one (.bptr 1 0)), .v (.one (.bptr 2 0))], [.box [.str], .box [.str], .box [.int .i64]]⟩
def i_Collision.ko2 : Ex → List CastAt × List Nat
  | .nrm => ([], [12, 13, 14])
  | .ret => ([], [12, 13, 14])
  | .ext i => ([], [])
def i_Collision.G2 (n : Nat) (R : Type) (t : i_Collision.sh2.T) (K : Ex → Kp → Option R) : Option R := i_Collision.b2 (fun y0 y1 y2 => K .nrm (SK.enc i_Collision.sh2n (((), (), (), ()), ((y0, ()), (y1, ()), (y2, ()), ())))) (fun y0 y1 y2 => K .ret (SK.enc i_Collision.sh2r (((), (), (), ()), ((y0, ()), (y1, ()), (y2, ()), ())))) n t.1.2.2.2.2.1 t.2.1.1 t.2.2.1.1 t.2.2.2.1.1 t.2.2.2.2.2.1
def i_Collision.S2 : Sum := ⟨([⟨82, false, 0, .slv [0] .str⟩], [12, 13, 14, 19, 82]), backF (k := .str) i_Collision.sh2 (fun t => t.1.2.2.2.2.1) 16 (i_Collision.G2), i_Collision.ko2⟩
theorem i_Collision.ok2 (hE : EOk Try.prog (i_Collision.E)) : TailOk Try.prog i_Collision.E (opsOf (cL (cL (cR (cR (cR (cR (cR (cR (bodyOf Try.f29)))))))))) (cR (cL (cR (cR (cR (cR (cR (cR (bodyOf Try.f29))))))))) (i_Collision.S2) :=
  backS (kout := i_Collision.ko2) (sh := i_Collision.sh2) (k := .str) (m := [0]) (row := fun t => t.1.2.2.2.2.1) (F := i_Collision.G2) (bl := 1) (t0 := 82) (t1 := 83) (p0 := 84) (p1 := 85) (ops_ok (hE.gv _)) (by kernel_rfl) dn74 (by kernel_rfl) (by kernel_rfl) (by kernel_rfl) (fun t => by kernel_rfl) (fun R t K => by kernel_rfl) (fun n R t K => by kernel_rfl)
theorem i_Collision.hok (hE : EOk Try.prog (i_Collision.E)) : HintOk Try.prog i_Collision.E (bodyOf Try.f29) (.n (.a) (.n (.a) (.n (.a) (.n (.a) (.n (.a) (.n (.b (.n (.s (i_Collision.S1)) (.a))) (.n (.r (i_Collision.S2)) (.a)))))))) := HintOk.n1 (Q := (True) ∧ ((True) ∧ ((True) ∧ ((True) ∧ ((True) ∧ (((SumOk Try.prog i_Collision.E (cL (cB (cL (cR (cR (cR (cR (cR (bodyOf Try.f29))))))))) (i_Collision.S1)) ∧ (True)) ∧ ((TailOk Try.prog i_Collision.E (opsOf (cL (cL (cR (cR (cR (cR (cR (cR (bodyOf Try.f29)))))))))) (cR (cL (cR (cR (cR (cR (cR (cR (bodyOf Try.f29))))))))) (i_Collision.S2)) ∧ (True)))))))) (by kernel_rfl) ⟨trivial, ⟨trivial, ⟨trivial, ⟨trivial, ⟨trivial, ⟨⟨(i_Collision.ok1 hE), trivial⟩, ⟨(i_Collision.ok2 hE), trivial⟩⟩⟩⟩⟩⟩⟩
theorem i_Collision.hE : EOk Try.prog (i_Collision.E) := EOk.of ttOk (⟨i_isList_string.fok, ⟨i_isText.fok, ⟨i_proofCode.fok, ⟨i_inclusionRoot.fok, trivial⟩⟩⟩⟩)
theorem i_Collision.fok : FOk Try.prog 29 i_Collision.fi :=
  fokS (E := i_Collision.E) (wy := ⟨[[none], [none], [none]], [[], [], [], [], [], []], []⟩) (h := (fun gs => .n (.a) (.n (.a) (.n (.a) (.n (.a) (.n (.a) (.n (.b (.n (.s (i_Collision.S1)) (.a))) (.n (.r (i_Collision.S2)) (.a))))))))) (G := fun t g => i_Collision.F (fun y0 y1 y2 => g (y0, y1, y2)) t.1 t.2.1 t.2.2.1 t.2.2.2.1 t.2.2.2.2.1 t.2.2.2.2.2.1) (by kernel_rfl) i_Collision.hE Try.func29 (by kernel_rfl) rfl (Nat.le_refl _) (fun t => HintOk.n1 (by kernel_rfl) (i_Collision.hok i_Collision.hE)) (fun t g => i_Collision_nat g t.1 t.2.1 t.2.2.1 t.2.2.2.1 t.2.2.2.2.1 t.2.2.2.2.2.1) (fun t => by kernel_rfl)
/-! loop.example_g00220_laws.FnExactCollision -/
def l_FnExactCollision.F {R : Type} (kk : Bool → Option R) (aAt : Int) (aSize : Int) (aLeafA : ByteArray) (aProofA : List ByteArray) (aLeafB : ByteArray) (aProofB : List ByteArray) : Option R :=
  cond (decide ((ByteArray.size aLeafA : Int) > (1048576 : Int))) (kk true) (
    cond (decide ((ByteArray.size aLeafB : Int) > (1048576 : Int))) (kk true) (
      (l_szStringS aProofA (1048576 : Int)).bind fun r =>
      cond (decide (r < (0 : Int))) (kk true) (
        (l_szStringS aProofB r).bind fun r1 =>
        cond (decide (r1 < (0 : Int))) (kk true) (
          (l_toStringS aProofA).bind fun r2 =>
          (l_toStringS aProofB).bind fun r3 =>
          (s_Collision aAt aSize aLeafA r2 aLeafB r3).bind fun r4 =>
          (l_toStringS aProofA).bind fun r5 =>
          (l_toStringS aProofB).bind fun r6 =>
          (i_Collision aAt aSize aLeafA r5 aLeafB r6).bind fun r7 =>
          cond (!(sEq r7.1 r4.1)) (kk false) (
            cond (!(sEq r7.2.1 r4.2.1)) (kk false) (
              cond (r7.2.2 != r4.2.2) (kk false) (
                (l_toStringS aProofA).bind fun r8 =>
                (l_eqStringS r5 r8).bind fun r9 =>
                cond (!r9) (kk false) (
                  (l_toStringS aProofB).bind fun r10 =>
                  (l_eqStringS r6 r10).bind fun r11 =>
                  cond (!r11) (kk false) (kk true)))))))))
theorem l_FnExactCollision.F_nat {R S : Type} (g : R → Option S) (kk : Bool → Option R) (aAt : Int) (aSize : Int) (aLeafA : ByteArray) (aProofA : List ByteArray) (aLeafB : ByteArray) (aProofB : List ByteArray) : l_FnExactCollision.F (fun y0 => (kk y0).bind g) aAt aSize aLeafA aProofA aLeafB aProofB = (l_FnExactCollision.F kk aAt aSize aLeafA aProofA aLeafB aProofB).bind g := by
  simp only [l_FnExactCollision.F, grd_bind, cnd_bind, bnd_bind, non_bind]
def l_FnExactCollision (aAt : Int) (aSize : Int) (aLeafA : ByteArray) (aProofA : List ByteArray) (aLeafB : ByteArray) (aProofB : List ByteArray) : Option Bool := l_FnExactCollision.F (fun y0 => some y0) aAt aSize aLeafA aProofA aLeafB aProofB
theorem l_FnExactCollision_nat {S : Type} (g : Bool → Option S) (aAt : Int) (aSize : Int) (aLeafA : ByteArray) (aProofA : List ByteArray) (aLeafB : ByteArray) (aProofB : List ByteArray) : l_FnExactCollision.F (fun y0 => g y0) aAt aSize aLeafA aProofA aLeafB aProofB = (l_FnExactCollision aAt aSize aLeafA aProofA aLeafB aProofB).bind g := l_FnExactCollision.F_nat g (fun y0 => some y0) aAt aSize aLeafA aProofA aLeafB aProofB
def l_FnExactCollision.out : Bool → CRes := fun a => ⟨encL SV.enc [.one (.bool)] (a, ()), [encL SC.enc [] (), encL SC.enc [] (), encL SC.enc [] (), encL SC.enc [] (), encL SC.enc [] (), encL SC.enc [] ()]⟩
def l_FnExactCollision.ps : List PS := [.val [none], .val [none], .val [none], .val [some (.str, false)], .val [none], .val [some (.str, false)]]
def l_FnExactCollision.sA : List SA := [.v (.one (.int .i64)), .v (.one (.int .i64)), .v (.one (.str)), .v (.one (.slv [] .str)), .v (.one (.str)), .v (.one (.slv [] .str))]
def l_FnExactCollision.fi : FI := FIs l_FnExactCollision.sA (Bool) (fun t => l_FnExactCollision t.1 t.2.1 t.2.2.1 t.2.2.2.1 t.2.2.2.2.1 t.2.2.2.2.2.1) l_FnExactCollision.out l_FnExactCollision.ps
def l_FnExactCollision.E : Env := ⟨tt, lkF [(19, l_szStringS.fi), (21, l_toStringS.fi), (24, l_eqStringS.fi), (28, s_Collision.fi), (29, i_Collision.fi)], 89, 0, [], []⟩
theorem l_FnExactCollision.hok (hE : EOk Try.prog (l_FnExactCollision.E)) : HintOk Try.prog l_FnExactCollision.E (bodyOf Try.f5) (.a) := HintOk.n1 (Q := True) (by kernel_rfl) trivial
theorem l_FnExactCollision.hE : EOk Try.prog (l_FnExactCollision.E) := EOk.of ttOk (⟨l_szStringS.fok, ⟨l_toStringS.fok, ⟨l_eqStringS.fok, ⟨s_Collision.fok, ⟨i_Collision.fok, trivial⟩⟩⟩⟩⟩)
theorem l_FnExactCollision.fok : FOk Try.prog 5 l_FnExactCollision.fi :=
  fokS (E := l_FnExactCollision.E) (wy := ⟨[[none]], [[], [], [], [], [], []], []⟩) (h := (fun gs => .a)) (G := fun t g => l_FnExactCollision.F (fun y0 => g y0) t.1 t.2.1 t.2.2.1 t.2.2.2.1 t.2.2.2.2.1 t.2.2.2.2.2.1) (by kernel_rfl) l_FnExactCollision.hE Try.func5 (by kernel_rfl) rfl (Nat.le_refl _) (fun t => HintOk.n1 (by kernel_rfl) (l_FnExactCollision.hok l_FnExactCollision.hE)) (fun t g => l_FnExactCollision_nat g t.1 t.2.1 t.2.2.1 t.2.2.2.1 t.2.2.2.2.1 t.2.2.2.2.2.1) (fun t => by kernel_rfl)
end
end Go.Proofs.YtdpjbeeokimnaaaA
