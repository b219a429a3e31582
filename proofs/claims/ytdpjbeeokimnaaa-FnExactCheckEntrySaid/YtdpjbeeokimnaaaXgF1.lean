/-
  Functions of the program, and that the small machine's runs are these. No condition.
  Printed by wip/amp/main.py (a session's own program) out of Lean's print of the program; Lean's kernel checks it.
-/
import Derived.Test.YtdpjbeeokimnaaaXgF0
namespace Go.Proofs.YtdpjbeeokimnaaaA
open Go
noncomputable section
set_option linter.unusedVariables false
set_option linter.unusedSimpArgs false
set_option maxRecDepth 100000

/-! loop.example_g00220_impl.hash -/
def i_hash.l1 {R : Type} (kke0 : List Int → Option R) : Nat → ByteArray → Int → List Int → List Int → Option R
  | 0, _, _, _, _ => none
  | n + 1, all, at_, words, k_ =>
    cond (decide (at_ < (ByteArray.size all : Int))) (
      grd (gSl at_ (IntKind.wrap .i64 (at_ + (64 : Int))) (ByteArray.size all)) <|
      (i_blockHash words k_ (cut all at_ (IntKind.wrap .i64 (at_ + (64 : Int))))).bind fun r =>
      i_hash.l1 kke0 n all (IntKind.wrap .i64 (at_ + (64 : Int))) r k_) (kke0 words)
theorem i_hash.l1_nat {R S : Type} (g : R → Option S) (kke0 : List Int → Option R) : ∀ (n : Nat) (all : ByteArray) (at_ : Int) (words : List Int) (k_ : List Int), i_hash.l1 (fun y0 => (kke0 y0).bind g) n all at_ words k_ = (i_hash.l1 kke0 n all at_ words k_).bind g := by
  intro n
  induction n with
  | zero => intros; rfl
  | succ n ih => intros; simp only [i_hash.l1, grd_bind, cnd_bind, bnd_bind, non_bind, ih]
def i_hash.l2 {R : Type} (kke2 : ByteArray → Option R) : Nat → ByteArray → List Int → Int → Option R
  | 0, _, _, _ => none
  | n + 1, out, l, i =>
    cond (decide (i < (8 : Int))) (
      grd (gIx i 8) <|
      (i_number (IntKind.wrap .i64 (rdE (.int .u32 : Kd) l (Int.toNat i))) (4 : Int)).bind fun r =>
      grd (gCat out r) <|
      i_hash.l2 kke2 n (out ++ r) l (IntKind.wrap .i64 (i + (1 : Int)))) (kke2 out)
theorem i_hash.l2_nat {R S : Type} (g : R → Option S) (kke2 : ByteArray → Option R) : ∀ (n : Nat) (out : ByteArray) (l : List Int) (i : Int), i_hash.l2 (fun y0 => (kke2 y0).bind g) n out l i = (i_hash.l2 kke2 n out l i).bind g := by
  intro n
  induction n with
  | zero => intros; rfl
  | succ n ih => intros; simp only [i_hash.l2, grd_bind, cnd_bind, bnd_bind, non_bind, ih]
def i_hash.F {R : Type} (kk : ByteArray → Option R) (s : ByteArray) : Option R :=
  grd (gCat s (⟨#[128]⟩ : ByteArray)) <|
  grd (gNz (64 : Int)) <|
  grd (gNz (64 : Int)) <|
  (strings_Repeat (⟨#[0]⟩ : ByteArray) (Int.tmod (IntKind.wrap .i64 ((119 : Int) - (Int.tmod (ByteArray.size s : Int) (64 : Int)))) (64 : Int))).bind fun r =>
  grd (gCat (s ++ (⟨#[128]⟩ : ByteArray)) r) <|
  (i_number (IntKind.wrap .i64 ((8 : Int) * (ByteArray.size s : Int))) (8 : Int)).bind fun r1 =>
  grd (gCat ((s ++ (⟨#[128]⟩ : ByteArray)) ++ r) r1) <|
  (i_hashWords).bind fun r2 =>
  (i_roundWords).bind fun r3 =>
  i_hash.l1 (fun words => i_hash.l2 (fun out => kk out) fuel ByteArray.empty words (0 : Int)) fuel (((s ++ (⟨#[128]⟩ : ByteArray)) ++ r) ++ r1) (0 : Int) r2 r3
theorem i_hash.F_nat {R S : Type} (g : R → Option S) (kk : ByteArray → Option R) (s : ByteArray) : i_hash.F (fun y0 => (kk y0).bind g) s = (i_hash.F kk s).bind g := by
  simp only [i_hash.F, grd_bind, cnd_bind, bnd_bind, non_bind, ← i_hash.l1_nat, ← i_hash.l2_nat]
theorem i_hash_ex : ∃ f : ByteArray → Option ByteArray, f = fun (s : ByteArray) => i_hash.F (fun y0 => some y0) s := ⟨_, rfl⟩
/-- Chosen, so that the kernel does not unfold it. -/
noncomputable def i_hash : ByteArray → Option ByteArray := Classical.choose i_hash_ex
theorem i_hash_eq (s : ByteArray) : i_hash s = i_hash.F (fun y0 => some y0) s := (congrFun (Classical.choose_spec i_hash_ex) s)
theorem i_hash_nat {S : Type} (g : ByteArray → Option S) (s : ByteArray) : i_hash.F (fun y0 => g y0) s = (i_hash s).bind g := by
  rw [i_hash_eq]
  exact i_hash.F_nat g (fun y0 => some y0) s
def i_hash.out : ByteArray → CRes := fun a => ⟨encL SV.enc [.one (.str)] (a, ()), [encL SC.enc [] ()]⟩
def i_hash.ps : List PS := [.val [none]]
def i_hash.sA : List SA := [.v (.one (.str))]
def i_hash.fi : FI := FIs i_hash.sA (ByteArray) (fun t => i_hash t.1) i_hash.out i_hash.ps
def i_hash.E : Env := ⟨tt, lkF [(95, i_number.fi), (126, strings_Repeat.fi), (127, i_hashWords.fi), (128, i_roundWords.fi), (129, i_blockHash.fi)], 51, 0, [], []⟩
def i_hash.sh1 : SK := ⟨[.v (.one (.str)), .v (.one (.aptr 0)), .v (.one (.aptr 1)), .v (.one (.int .i64))], [.vec 8 (.int .u32), .vec 64 (.int .u32)]⟩
def i_hash.sh1e0 : SK := ⟨[.v (.one (.aptr 0))], [.vec 8 (.int .u32)]⟩
def i_hash.ko1 : Ex → List CastAt × List Nat
  | .nrm => ([], [])
  | .ret => ([], [])
  | .ext i => cond (Nat.beq i 0) ([], [4]) ([], [])
def i_hash.G1 (n : Nat) (R : Type) (t : i_hash.sh1.T) (K : Ex → Kp → Option R) : Option R := i_hash.l1 (fun y0 => K (.ext 0) (SK.enc i_hash.sh1e0 (((), ()), (y0, ())))) n t.1.1 t.1.2.2.2.1 t.2.1 t.2.2.1
def i_hash.S1 : Sum := ⟨([], [3, 4, 5, 6]), sumF i_hash.sh1 (i_hash.G1 fuel), i_hash.ko1⟩
theorem i_hash.ok1 (hE : EOk Try.prog (i_hash.E)) : SumOk Try.prog i_hash.E (cB (cR (cL (cR (cR (cR (bodyOf Try.f85))))))) (i_hash.S1) := by
  have hh : HintOk Try.prog i_hash.E (cB (cB (cR (cL (cR (cR (cR (bodyOf Try.f85)))))))) (.a) := HintOk.n1 (Q := True) (by kernel_rfl) trivial
  have h := loopS (kin := ([], [3, 4, 5, 6])) (kout := i_hash.ko1) (sh := i_hash.sh1) (F := i_hash.G1) (ops_ok (hE.gv _)) (by kernel_rfl) hh (fun _ _ _ => rfl) (fun n R t K => by kernel_rfl) fuel
  exact HintOk.n1 (c := (cB (cR (cL (cR (cR (cR (bodyOf Try.f85)))))))) (h := .s (i_hash.S1)) (P := Try.prog) (E := i_hash.E) (by kernel_rfl) h
def i_hash.sh2 : SK := ⟨[.v (.one (.str)), .v (.vec 8 (.int .u32)), .v (.one (.int .i64))], []⟩
def i_hash.sh2e2 : SK := ⟨[.v (.one (.str))], []⟩
def i_hash.ko2 : Ex → List CastAt × List Nat
  | .nrm => ([], [])
  | .ret => ([], [])
  | .ext i => cond (Nat.beq i 2) ([], [7]) ([], [])
def i_hash.G2 (n : Nat) (R : Type) (t : i_hash.sh2.T) (K : Ex → Kp → Option R) : Option R := i_hash.l2 (fun y0 => K (.ext 2) (SK.enc i_hash.sh2e2 ((y0, ()), ()))) n t.1.1 t.1.2.1 t.1.2.2.1
def i_hash.S2 : Sum := ⟨([], [7, 40, 41]), sumF i_hash.sh2 (i_hash.G2 fuel), i_hash.ko2⟩
theorem i_hash.ok2 (hE : EOk Try.prog (i_hash.E)) : SumOk Try.prog i_hash.E (cB (cR (cL (cR (cR (cR (cR (cR (bodyOf Try.f85))))))))) (i_hash.S2) := by
  have hh : HintOk Try.prog i_hash.E (cB (cB (cR (cL (cR (cR (cR (cR (cR (bodyOf Try.f85)))))))))) (.a) := HintOk.n1 (Q := True) (by kernel_rfl) trivial
  have h := loopS (kin := ([], [7, 40, 41])) (kout := i_hash.ko2) (sh := i_hash.sh2) (F := i_hash.G2) (ops_ok (hE.gv _)) (by kernel_rfl) hh (fun _ _ _ => rfl) (fun n R t K => by kernel_rfl) fuel
  exact HintOk.n1 (c := (cB (cR (cL (cR (cR (cR (cR (cR (bodyOf Try.f85)))))))))) (h := .s (i_hash.S2)) (P := Try.prog) (E := i_hash.E) (by kernel_rfl) h
theorem i_hash.hok (hE : EOk Try.prog (i_hash.E)) : HintOk Try.prog i_hash.E (bodyOf Try.f85) (.n (.a) (.n (.a) (.n (.a) (.n (.n (.a) (.b (.s (i_hash.S1)))) (.n (.a) (.n (.n (.a) (.b (.s (i_hash.S2)))) (.a))))))) := HintOk.n1 (Q := (True) ∧ ((True) ∧ ((True) ∧ (((True) ∧ (SumOk Try.prog i_hash.E (cB (cR (cL (cR (cR (cR (bodyOf Try.f85))))))) (i_hash.S1))) ∧ ((True) ∧ (((True) ∧ (SumOk Try.prog i_hash.E (cB (cR (cL (cR (cR (cR (cR (cR (bodyOf Try.f85))))))))) (i_hash.S2))) ∧ (True))))))) (by kernel_rfl) ⟨trivial, ⟨trivial, ⟨trivial, ⟨⟨trivial, (i_hash.ok1 hE)⟩, ⟨trivial, ⟨⟨trivial, (i_hash.ok2 hE)⟩, trivial⟩⟩⟩⟩⟩⟩
theorem i_hash.hE : EOk Try.prog (i_hash.E) := EOk.of ttOk (⟨i_number.fok, ⟨strings_Repeat.fok, ⟨i_hashWords.fok, ⟨i_roundWords.fok, ⟨i_blockHash.fok, trivial⟩⟩⟩⟩⟩)
theorem i_hash.fok : FOk Try.prog 85 i_hash.fi :=
  fokS (E := i_hash.E) (wy := ⟨[[none]], [[]], []⟩) (h := (fun gs => .n (.a) (.n (.a) (.n (.a) (.n (.n (.a) (.b (.s (i_hash.S1)))) (.n (.a) (.n (.n (.a) (.b (.s (i_hash.S2)))) (.a)))))))) (G := fun t g => i_hash.F (fun y0 => g y0) t.1) (by kernel_rfl) i_hash.hE Try.func85 (by kernel_rfl) rfl (Nat.le_refl _) (fun t => HintOk.n1 (by kernel_rfl) (i_hash.hok i_hash.hE)) (fun t g => i_hash_nat g t.1) (fun t => by kernel_rfl)
/-! loop.example_g00220_impl.nodeHash -/
def i_nodeHash.F {R : Type} (kk : ByteArray → Option R) (left : ByteArray) (right : ByteArray) : Option R :=
  grd (gCat (⟨#[1]⟩ : ByteArray) left) <|
  grd (gCat ((⟨#[1]⟩ : ByteArray) ++ left) right) <|
  (i_hash (((⟨#[1]⟩ : ByteArray) ++ left) ++ right)).bind fun r =>
  kk r
theorem i_nodeHash.F_nat {R S : Type} (g : R → Option S) (kk : ByteArray → Option R) (left : ByteArray) (right : ByteArray) : i_nodeHash.F (fun y0 => (kk y0).bind g) left right = (i_nodeHash.F kk left right).bind g := by
  simp only [i_nodeHash.F, grd_bind, cnd_bind, bnd_bind, non_bind]
def i_nodeHash (left : ByteArray) (right : ByteArray) : Option ByteArray := i_nodeHash.F (fun y0 => some y0) left right
theorem i_nodeHash_nat {S : Type} (g : ByteArray → Option S) (left : ByteArray) (right : ByteArray) : i_nodeHash.F (fun y0 => g y0) left right = (i_nodeHash left right).bind g := i_nodeHash.F_nat g (fun y0 => some y0) left right
def i_nodeHash.out : ByteArray → CRes := fun a => ⟨encL SV.enc [.one (.str)] (a, ()), [encL SC.enc [] (), encL SC.enc [] ()]⟩
def i_nodeHash.ps : List PS := [.val [none], .val [none]]
def i_nodeHash.sA : List SA := [.v (.one (.str)), .v (.one (.str))]
def i_nodeHash.fi : FI := FIs i_nodeHash.sA (ByteArray) (fun t => i_nodeHash t.1 t.2.1) i_nodeHash.out i_nodeHash.ps
def i_nodeHash.E : Env := ⟨tt, lkF [(85, i_hash.fi)], 10, 0, [], []⟩
theorem i_nodeHash.hok (hE : EOk Try.prog (i_nodeHash.E)) : HintOk Try.prog i_nodeHash.E (bodyOf Try.f168) (.a) := HintOk.n1 (Q := True) (by kernel_rfl) trivial
theorem i_nodeHash.hE : EOk Try.prog (i_nodeHash.E) := EOk.of ttOk (⟨i_hash.fok, trivial⟩)
theorem i_nodeHash.fok : FOk Try.prog 168 i_nodeHash.fi :=
  fokS (E := i_nodeHash.E) (wy := ⟨[[none]], [[], []], []⟩) (h := (fun gs => .a)) (G := fun t g => i_nodeHash.F (fun y0 => g y0) t.1 t.2.1) (by kernel_rfl) i_nodeHash.hE Try.func168 (by kernel_rfl) rfl (Nat.le_refl _) (fun t => HintOk.n1 (by kernel_rfl) (i_nodeHash.hok i_nodeHash.hE)) (fun t g => i_nodeHash_nat g t.1 t.2.1) (fun t => by kernel_rfl)
/-! __loop.example_g00220_impl.prover_.node -/
def i_prover_node.F {R : Type} (kk : ByteArray → List ByteArray → Bool → List ByteArray → Option R) (p_proof : List ByteArray) (p_bad : Bool) (p_steps : List ByteArray) (left : ByteArray) (right : ByteArray) : Option R :=
  grd (gCat (⟨#[1]⟩ : ByteArray) left) <|
  grd (gCat ((⟨#[1]⟩ : ByteArray) ++ left) right) <|
  grd (gRm (((List.length p_steps) + (List.length ([((⟨#[1]⟩ : ByteArray) ++ left) ++ right]))) * 16)) <|
  (i_nodeHash left right).bind fun r =>
  kk r p_proof p_bad (p_steps ++ ([((⟨#[1]⟩ : ByteArray) ++ left) ++ right]))
theorem i_prover_node.F_nat {R S : Type} (g : R → Option S) (kk : ByteArray → List ByteArray → Bool → List ByteArray → Option R) (p_proof : List ByteArray) (p_bad : Bool) (p_steps : List ByteArray) (left : ByteArray) (right : ByteArray) : i_prover_node.F (fun y0 y1 y2 y3 => (kk y0 y1 y2 y3).bind g) p_proof p_bad p_steps left right = (i_prover_node.F kk p_proof p_bad p_steps left right).bind g := by
  simp only [i_prover_node.F, grd_bind, cnd_bind, bnd_bind, non_bind]
def i_prover_node (p_proof : List ByteArray) (p_bad : Bool) (p_steps : List ByteArray) (left : ByteArray) (right : ByteArray) : Option (ByteArray × List ByteArray × Bool × List ByteArray) := i_prover_node.F (fun y0 y1 y2 y3 => some (y0, y1, y2, y3)) p_proof p_bad p_steps left right
theorem i_prover_node_nat {S : Type} (g : (ByteArray × List ByteArray × Bool × List ByteArray) → Option S) (p_proof : List ByteArray) (p_bad : Bool) (p_steps : List ByteArray) (left : ByteArray) (right : ByteArray) : i_prover_node.F (fun y0 y1 y2 y3 => g (y0, y1, y2, y3)) p_proof p_bad p_steps left right = (i_prover_node p_proof p_bad p_steps left right).bind g := i_prover_node.F_nat g (fun y0 y1 y2 y3 => some (y0, y1, y2, y3)) p_proof p_bad p_steps left right
def i_prover_node.out : (ByteArray × List ByteArray × Bool × List ByteArray) → CRes := fun a => ⟨encL SV.enc [.one (.str)] (a.1, ()), [encL SC.enc [.slv [1] .str, .bool, .own [] .str true] (a.2.1, a.2.2.1, a.2.2.2, ()), encL SC.enc [] (), encL SC.enc [] ()]⟩
def i_prover_node.ps : List PS := [.ptr [some (.str, false), none, some (.str, true)], .val [none], .val [none]]
def i_prover_node.sA : List SA := [.ptr [.slv [] .str, .bool, .own [] .str true], .v (.one (.str)), .v (.one (.str))]
def i_prover_node.fi : FI := FIs i_prover_node.sA (ByteArray × List ByteArray × Bool × List ByteArray) (fun t => i_prover_node t.1.1 t.1.2.1 t.1.2.2.1 t.2.1 t.2.2.1) i_prover_node.out i_prover_node.ps
def i_prover_node.E : Env := ⟨tt, lkF [(168, i_nodeHash.fi)], 23, 2, [], []⟩
theorem i_prover_node.hok (hE : EOk Try.prog (i_prover_node.E)) : HintOk Try.prog i_prover_node.E (bodyOf Try.f148) (.a) := HintOk.n1 (Q := True) (by kernel_rfl) trivial
theorem i_prover_node.hE : EOk Try.prog (i_prover_node.E) := EOk.of ttOk (⟨i_nodeHash.fok, trivial⟩)
theorem i_prover_node.fok : FOk Try.prog 148 i_prover_node.fi :=
  fokS (E := i_prover_node.E) (wy := ⟨[[none]], [[some (.str, false), none, some (.str, true)], [], []], []⟩) (h := (fun gs => .a)) (G := fun t g => i_prover_node.F (fun y0 y1 y2 y3 => g (y0, y1, y2, y3)) t.1.1 t.1.2.1 t.1.2.2.1 t.2.1 t.2.2.1) (by kernel_rfl) i_prover_node.hE Try.func148 (by kernel_rfl) rfl (Nat.le_refl _) (fun t => HintOk.n1 (by kernel_rfl) (i_prover_node.hok i_prover_node.hE)) (fun t g => i_prover_node_nat g t.1.1 t.1.2.1 t.1.2.2.1 t.2.1 t.2.2.1) (fun t => by kernel_rfl)
/-! __loop.example_g00220_impl.prover_.next -/
def i_prover_next.F {R : Type} (kk : ByteArray → List ByteArray → Bool → List ByteArray → Option R) (p_proof : List ByteArray) (p_bad : Bool) (p_steps : List ByteArray) : Option R :=
  cond ((List.length p_proof : Int) == (0 : Int)) (kk ByteArray.empty p_proof true p_steps) (
    grd (gIx (0 : Int) (List.length p_proof)) <|
    grd (gSl (1 : Int) (List.length p_proof : Int) (List.length p_proof)) <|
    kk (rdE (.str : Kd) p_proof (Int.toNat (0 : Int))) (sub p_proof (1 : Int) (List.length p_proof : Int)) p_bad p_steps)
theorem i_prover_next.F_nat {R S : Type} (g : R → Option S) (kk : ByteArray → List ByteArray → Bool → List ByteArray → Option R) (p_proof : List ByteArray) (p_bad : Bool) (p_steps : List ByteArray) : i_prover_next.F (fun y0 y1 y2 y3 => (kk y0 y1 y2 y3).bind g) p_proof p_bad p_steps = (i_prover_next.F kk p_proof p_bad p_steps).bind g := by
  simp only [i_prover_next.F, grd_bind, cnd_bind, bnd_bind, non_bind]
def i_prover_next (p_proof : List ByteArray) (p_bad : Bool) (p_steps : List ByteArray) : Option (ByteArray × List ByteArray × Bool × List ByteArray) := i_prover_next.F (fun y0 y1 y2 y3 => some (y0, y1, y2, y3)) p_proof p_bad p_steps
theorem i_prover_next_nat {S : Type} (g : (ByteArray × List ByteArray × Bool × List ByteArray) → Option S) (p_proof : List ByteArray) (p_bad : Bool) (p_steps : List ByteArray) : i_prover_next.F (fun y0 y1 y2 y3 => g (y0, y1, y2, y3)) p_proof p_bad p_steps = (i_prover_next p_proof p_bad p_steps).bind g := i_prover_next.F_nat g (fun y0 y1 y2 y3 => some (y0, y1, y2, y3)) p_proof p_bad p_steps
def i_prover_next.out : (ByteArray × List ByteArray × Bool × List ByteArray) → CRes := fun a => ⟨encL SV.enc [.one (.str)] (a.1, ()), [encL SC.enc [.slv [1] .str, .bool, .own [] .str true] (a.2.1, a.2.2.1, a.2.2.2, ())]⟩
def i_prover_next.ps : List PS := [.ptr [some (.str, false), none, some (.str, true)]]
def i_prover_next.sA : List SA := [.ptr [.slv [] .str, .bool, .own [] .str true]]
def i_prover_next.fi : FI := FIs i_prover_next.sA (ByteArray × List ByteArray × Bool × List ByteArray) (fun t => i_prover_next t.1.1 t.1.2.1 t.1.2.2.1) i_prover_next.out i_prover_next.ps
def i_prover_next.E : Env := ⟨tt, lkF [], 28, 2, [], []⟩
theorem i_prover_next.hok (hE : EOk Try.prog (i_prover_next.E)) : HintOk Try.prog i_prover_next.E (bodyOf Try.f149) (.a) := HintOk.n1 (Q := True) (by kernel_rfl) trivial
theorem i_prover_next.hE : EOk Try.prog (i_prover_next.E) := EOk.of ttOk (trivial)
theorem i_prover_next.fok : FOk Try.prog 149 i_prover_next.fi :=
  fokS (E := i_prover_next.E) (wy := ⟨[[none]], [[some (.str, false), none, some (.str, true)]], []⟩) (h := (fun gs => .a)) (G := fun t g => i_prover_next.F (fun y0 y1 y2 y3 => g (y0, y1, y2, y3)) t.1.1 t.1.2.1 t.1.2.2.1) (by kernel_rfl) i_prover_next.hE Try.func149 (by kernel_rfl) rfl (Nat.le_refl _) (fun t => HintOk.n1 (by kernel_rfl) (i_prover_next.hok i_prover_next.hE)) (fun t g => i_prover_next_nat g t.1.1 t.1.2.1 t.1.2.2.1) (fun t => by kernel_rfl)
/-! __loop.example_g00220_impl.prover_.inclusion -/
def i_prover_inclusion.F {R : Type} (rc : List ByteArray → Bool → List ByteArray → ByteArray → Int → Int → Option (ByteArray × List ByteArray × Bool × List ByteArray)) (kk : ByteArray → List ByteArray → Bool → List ByteArray → Option R) (p_proof : List ByteArray) (p_bad : Bool) (p_steps : List ByteArray) (leaf : ByteArray) (at_ : Int) (size : Int) : Option R :=
  cond (decide (size ≤ (1 : Int))) (kk leaf p_proof p_bad p_steps) (
    (i_split size).bind fun r =>
    cond (decide (at_ < r)) (
      (rc p_proof p_bad p_steps leaf at_ r).bind fun r1 =>
      (i_prover_next r1.2.1 r1.2.2.1 r1.2.2.2).bind fun r2 =>
      (i_prover_node r2.2.1 r2.2.2.1 r2.2.2.2 r1.1 r2.1).bind fun r3 =>
      kk r3.1 r3.2.1 r3.2.2.1 r3.2.2.2) (
      (rc p_proof p_bad p_steps leaf (IntKind.wrap .i64 (at_ - r)) (IntKind.wrap .i64 (size - r))).bind fun r4 =>
      (i_prover_next r4.2.1 r4.2.2.1 r4.2.2.2).bind fun r5 =>
      (i_prover_node r5.2.1 r5.2.2.1 r5.2.2.2 r5.1 r4.1).bind fun r6 =>
      kk r6.1 r6.2.1 r6.2.2.1 r6.2.2.2))
theorem i_prover_inclusion.F_nat {R S : Type} (g : R → Option S) (rc : List ByteArray → Bool → List ByteArray → ByteArray → Int → Int → Option (ByteArray × List ByteArray × Bool × List ByteArray)) (kk : ByteArray → List ByteArray → Bool → List ByteArray → Option R) (p_proof : List ByteArray) (p_bad : Bool) (p_steps : List ByteArray) (leaf : ByteArray) (at_ : Int) (size : Int) : i_prover_inclusion.F rc (fun y0 y1 y2 y3 => (kk y0 y1 y2 y3).bind g) p_proof p_bad p_steps leaf at_ size = (i_prover_inclusion.F rc kk p_proof p_bad p_steps leaf at_ size).bind g := by
  simp only [i_prover_inclusion.F, grd_bind, cnd_bind, bnd_bind, non_bind]
def i_prover_inclusion : Nat → List ByteArray → Bool → List ByteArray → ByteArray → Int → Int → Option (ByteArray × List ByteArray × Bool × List ByteArray)
  | 0, _, _, _, _, _, _ => none
  | fu + 1, p_proof, p_bad, p_steps, leaf, at_, size => i_prover_inclusion.F (i_prover_inclusion fu) (fun y0 y1 y2 y3 => some (y0, y1, y2, y3)) p_proof p_bad p_steps leaf at_ size
theorem i_prover_inclusion_nat {S : Type} (fu : Nat) (g : (ByteArray × List ByteArray × Bool × List ByteArray) → Option S) (p_proof : List ByteArray) (p_bad : Bool) (p_steps : List ByteArray) (leaf : ByteArray) (at_ : Int) (size : Int) : i_prover_inclusion.F (i_prover_inclusion fu) (fun y0 y1 y2 y3 => g (y0, y1, y2, y3)) p_proof p_bad p_steps leaf at_ size = (i_prover_inclusion (fu + 1) p_proof p_bad p_steps leaf at_ size).bind g := i_prover_inclusion.F_nat g (i_prover_inclusion fu) (fun y0 y1 y2 y3 => some (y0, y1, y2, y3)) p_proof p_bad p_steps leaf at_ size
def i_prover_inclusion.out : (ByteArray × List ByteArray × Bool × List ByteArray) → CRes := fun a => ⟨encL SV.enc [.one (.str)] (a.1, ()), [encL SC.enc [.slv [1] .str, .bool, .own [] .str true] (a.2.1, a.2.2.1, a.2.2.2, ()), encL SC.enc [] (), encL SC.enc [] (), encL SC.enc [] ()]⟩
def i_prover_inclusion.ps : List PS := [.ptr [some (.str, false), none, some (.str, true)], .val [none], .val [none], .val [none]]
def i_prover_inclusion.sA : List SA := [.ptr [.slv [] .str, .bool, .own [] .str true], .v (.one (.str)), .v (.one (.int .i64)), .v (.one (.int .i64))]
def i_prover_inclusion.fi (fu : Nat) : FI := FIs i_prover_inclusion.sA (ByteArray × List ByteArray × Bool × List ByteArray) (fun t => i_prover_inclusion fu t.1.1 t.1.2.1 t.1.2.2.1 t.2.1 t.2.2.1 t.2.2.2.1) i_prover_inclusion.out i_prover_inclusion.ps
def i_prover_inclusion.E (fu : Nat) : Env := ⟨tt, lkF [(119, i_prover_inclusion.fi fu), (147, i_split.fi), (148, i_prover_node.fi), (149, i_prover_next.fi)], 44, 2, [], []⟩
theorem i_prover_inclusion.hok (fu : Nat) (hE : EOk Try.prog (i_prover_inclusion.E fu)) : HintOk Try.prog (i_prover_inclusion.E fu) (bodyOf Try.f119) (.a) := HintOk.n1 (Q := True) (by kernel_rfl) trivial
theorem i_prover_inclusion.fok0 : FOk Try.prog 119 (i_prover_inclusion.fi 0) := FOk.zero ⟨_, _, Try.func119, by kernel_rfl, rfl⟩ (fun _ => rfl)
theorem i_prover_inclusion.fok1 (fu : Nat) (ih : FOk Try.prog 119 (i_prover_inclusion.fi fu)) : FOk Try.prog 119 (i_prover_inclusion.fi (fu + 1)) := by
  have hE : EOk Try.prog (i_prover_inclusion.E fu) := EOk.of ttOk (⟨ih, ⟨i_split.fok, ⟨i_prover_node.fok, ⟨i_prover_next.fok, trivial⟩⟩⟩⟩)
  exact fokS (E := i_prover_inclusion.E fu) (wy := ⟨[[none]], [[some (.str, false), none, some (.str, true)], [], [], []], []⟩) (h := (fun gs => .a)) (G := fun t g => i_prover_inclusion.F (i_prover_inclusion fu) (fun y0 y1 y2 y3 => g (y0, y1, y2, y3)) t.1.1 t.1.2.1 t.1.2.2.1 t.2.1 t.2.2.1 t.2.2.2.1) (by kernel_rfl) hE Try.func119 (by kernel_rfl) rfl (Nat.le_refl _) (fun t => HintOk.n1 (by kernel_rfl) (i_prover_inclusion.hok fu hE)) (fun t g => i_prover_inclusion_nat fu g t.1.1 t.1.2.1 t.1.2.2.1 t.2.1 t.2.2.1 t.2.2.2.1) (fun t => by kernel_rfl)
theorem i_prover_inclusion.fok (fu : Nat) : FOk Try.prog 119 (i_prover_inclusion.fi fu) := Nat.rec i_prover_inclusion.fok0 i_prover_inclusion.fok1 fu
/-! loop.example_g00220_impl.inclusionRoot -/
def i_inclusionRoot.F {R : Type} (kk : ByteArray → List ByteArray → Int → Option R) (leaf : ByteArray) (at_ : Int) (size : Int) (proof : List ByteArray) : Option R :=
  (i_within size (1 : Int) (64 : Int)).bind fun r =>
  cond (!r) (kk ByteArray.empty [] (4 : Int)) (
    (i_within at_ (0 : Int) (IntKind.wrap .i64 (size - (1 : Int)))).bind fun r1 =>
    cond (!r1) (kk ByteArray.empty [] (4 : Int)) (
      (i_prover_inclusion fuel proof false [] leaf at_ size).bind fun r2 =>
      cond (r2.2.2.1) (kk ByteArray.empty [] (10 : Int)) (
        cond (decide ((List.length r2.2.1 : Int) > (0 : Int))) (kk ByteArray.empty [] (10 : Int)) (kk r2.1 r2.2.2.2 (0 : Int)))))
theorem i_inclusionRoot.F_nat {R S : Type} (g : R → Option S) (kk : ByteArray → List ByteArray → Int → Option R) (leaf : ByteArray) (at_ : Int) (size : Int) (proof : List ByteArray) : i_inclusionRoot.F (fun y0 y1 y2 => (kk y0 y1 y2).bind g) leaf at_ size proof = (i_inclusionRoot.F kk leaf at_ size proof).bind g := by
  simp only [i_inclusionRoot.F, grd_bind, cnd_bind, bnd_bind, non_bind]
def i_inclusionRoot (leaf : ByteArray) (at_ : Int) (size : Int) (proof : List ByteArray) : Option (ByteArray × List ByteArray × Int) := i_inclusionRoot.F (fun y0 y1 y2 => some (y0, y1, y2)) leaf at_ size proof
theorem i_inclusionRoot_nat {S : Type} (g : (ByteArray × List ByteArray × Int) → Option S) (leaf : ByteArray) (at_ : Int) (size : Int) (proof : List ByteArray) : i_inclusionRoot.F (fun y0 y1 y2 => g (y0, y1, y2)) leaf at_ size proof = (i_inclusionRoot leaf at_ size proof).bind g := i_inclusionRoot.F_nat g (fun y0 y1 y2 => some (y0, y1, y2)) leaf at_ size proof
def i_inclusionRoot.out : (ByteArray × List ByteArray × Int) → CRes := fun a => ⟨encL SV.enc [.one (.str), .one (.own [] .str true), .one (.int .i64)] (a.1, a.2.1, a.2.2, ()), [encL SC.enc [] (), encL SC.enc [] (), encL SC.enc [] (), encL SC.enc [] ()]⟩
def i_inclusionRoot.ps : List PS := [.val [none], .val [none], .val [none], .val [some (.str, false)]]
def i_inclusionRoot.sA : List SA := [.v (.one (.str)), .v (.one (.int .i64)), .v (.one (.int .i64)), .v (.one (.slv [] .str))]
def i_inclusionRoot.fi : FI := FIs i_inclusionRoot.sA (ByteArray × List ByteArray × Int) (fun t => i_inclusionRoot t.1 t.2.1 t.2.2.1 t.2.2.2.1) i_inclusionRoot.out i_inclusionRoot.ps
def i_inclusionRoot.E : Env := ⟨tt, lkF [(79, i_within.fi), (119, i_prover_inclusion.fi fuel)], 48, 0, [], []⟩
theorem i_inclusionRoot.hok (hE : EOk Try.prog (i_inclusionRoot.E)) : HintOk Try.prog i_inclusionRoot.E (bodyOf Try.f73) (.a) := HintOk.n1 (Q := True) (by kernel_rfl) trivial
theorem i_inclusionRoot.hE : EOk Try.prog (i_inclusionRoot.E) := EOk.of ttOk (⟨i_within.fok, ⟨i_prover_inclusion.fok fuel, trivial⟩⟩)
theorem i_inclusionRoot.fok : FOk Try.prog 73 i_inclusionRoot.fi :=
  fokS (E := i_inclusionRoot.E) (wy := ⟨[[none], [some (.str, true)], [none]], [[], [], [], []], []⟩) (h := (fun gs => .a)) (G := fun t g => i_inclusionRoot.F (fun y0 y1 y2 => g (y0, y1, y2)) t.1 t.2.1 t.2.2.1 t.2.2.2.1) (by kernel_rfl) i_inclusionRoot.hE Try.func73 (by kernel_rfl) rfl (Nat.le_refl _) (fun t => HintOk.n1 (by kernel_rfl) (i_inclusionRoot.hok i_inclusionRoot.hE)) (fun t g => i_inclusionRoot_nat g t.1 t.2.1 t.2.2.1 t.2.2.2.1) (fun t => by kernel_rfl)
/-! _loop.example_g00220_impl.Trust_.last -/
def i_Trust_last.F {R : Type} (kk : Int → ByteArray → ByteArray → Option R) (t_Key : ByteArray) (t_Has : Bool) (t_Size : Int) (t_Log : ByteArray) (t_Map : ByteArray) : Option R :=
  kk t_Size t_Log t_Map
theorem i_Trust_last.F_nat {R S : Type} (g : R → Option S) (kk : Int → ByteArray → ByteArray → Option R) (t_Key : ByteArray) (t_Has : Bool) (t_Size : Int) (t_Log : ByteArray) (t_Map : ByteArray) : i_Trust_last.F (fun y0 y1 y2 => (kk y0 y1 y2).bind g) t_Key t_Has t_Size t_Log t_Map = (i_Trust_last.F kk t_Key t_Has t_Size t_Log t_Map).bind g := by
  simp only [i_Trust_last.F, grd_bind, cnd_bind, bnd_bind, non_bind]
def i_Trust_last (t_Key : ByteArray) (t_Has : Bool) (t_Size : Int) (t_Log : ByteArray) (t_Map : ByteArray) : Option (Int × ByteArray × ByteArray) := i_Trust_last.F (fun y0 y1 y2 => some (y0, y1, y2)) t_Key t_Has t_Size t_Log t_Map
theorem i_Trust_last_nat {S : Type} (g : (Int × ByteArray × ByteArray) → Option S) (t_Key : ByteArray) (t_Has : Bool) (t_Size : Int) (t_Log : ByteArray) (t_Map : ByteArray) : i_Trust_last.F (fun y0 y1 y2 => g (y0, y1, y2)) t_Key t_Has t_Size t_Log t_Map = (i_Trust_last t_Key t_Has t_Size t_Log t_Map).bind g := i_Trust_last.F_nat g (fun y0 y1 y2 => some (y0, y1, y2)) t_Key t_Has t_Size t_Log t_Map
def i_Trust_last.out : (Int × ByteArray × ByteArray) → CRes := fun a => ⟨encL SV.enc [.agg [.int .i64, .str, .str]] ((a.1, a.2.1, a.2.2, ()), ()), [encL SC.enc [] ()]⟩
def i_Trust_last.ps : List PS := [.val [none, none, none, none, none]]
def i_Trust_last.sA : List SA := [.v (.agg [.str, .bool, .int .i64, .str, .str])]
def i_Trust_last.fi : FI := FIs i_Trust_last.sA (Int × ByteArray × ByteArray) (fun t => i_Trust_last t.1.1 t.1.2.1 t.1.2.2.1 t.1.2.2.2.1 t.1.2.2.2.2.1) i_Trust_last.out i_Trust_last.ps
def i_Trust_last.E : Env := ⟨tt, lkF [], 10, 0, [], []⟩
theorem i_Trust_last.hok (hE : EOk Try.prog (i_Trust_last.E)) : HintOk Try.prog i_Trust_last.E (bodyOf Try.f123) (.a) := HintOk.n1 (Q := True) (by kernel_rfl) trivial
theorem i_Trust_last.hE : EOk Try.prog (i_Trust_last.E) := EOk.of ttOk (trivial)
theorem i_Trust_last.fok : FOk Try.prog 123 i_Trust_last.fi :=
  fokS (E := i_Trust_last.E) (wy := ⟨[[none, none, none]], [[]], []⟩) (h := (fun gs => .a)) (G := fun t g => i_Trust_last.F (fun y0 y1 y2 => g (y0, y1, y2)) t.1.1 t.1.2.1 t.1.2.2.1 t.1.2.2.2.1 t.1.2.2.2.2.1) (by kernel_rfl) i_Trust_last.hE Try.func123 (by kernel_rfl) rfl (Nat.le_refl _) (fun t => HintOk.n1 (by kernel_rfl) (i_Trust_last.hok i_Trust_last.hE)) (fun t g => i_Trust_last_nat g t.1.1 t.1.2.1 t.1.2.2.1 t.1.2.2.2.1 t.1.2.2.2.2.1) (fun t => by kernel_rfl)
/-! loop.example_g00220_impl.statementOK -/
def i_statementOK.F {R : Type} (kk : Bool → Option R) (s_Size : Int) (s_Log : ByteArray) (s_Map : ByteArray) : Option R :=
  (i_within s_Size (0 : Int) (50 : Int)).bind fun r =>
  cond (r) (
    (i_isHash [s_Log, s_Map]).bind fun r1 =>
    kk r1) (kk false)
theorem i_statementOK.F_nat {R S : Type} (g : R → Option S) (kk : Bool → Option R) (s_Size : Int) (s_Log : ByteArray) (s_Map : ByteArray) : i_statementOK.F (fun y0 => (kk y0).bind g) s_Size s_Log s_Map = (i_statementOK.F kk s_Size s_Log s_Map).bind g := by
  simp only [i_statementOK.F, grd_bind, cnd_bind, bnd_bind, non_bind]
def i_statementOK (s_Size : Int) (s_Log : ByteArray) (s_Map : ByteArray) : Option Bool := i_statementOK.F (fun y0 => some y0) s_Size s_Log s_Map
theorem i_statementOK_nat {S : Type} (g : Bool → Option S) (s_Size : Int) (s_Log : ByteArray) (s_Map : ByteArray) : i_statementOK.F (fun y0 => g y0) s_Size s_Log s_Map = (i_statementOK s_Size s_Log s_Map).bind g := i_statementOK.F_nat g (fun y0 => some y0) s_Size s_Log s_Map
def i_statementOK.out : Bool → CRes := fun a => ⟨encL SV.enc [.one (.bool)] (a, ()), [encL SC.enc [] ()]⟩
def i_statementOK.ps : List PS := [.val [none, none, none]]
def i_statementOK.sA : List SA := [.v (.agg [.int .i64, .str, .str])]
def i_statementOK.fi : FI := FIs i_statementOK.sA (Bool) (fun t => i_statementOK t.1.1 t.1.2.1 t.1.2.2.1) i_statementOK.out i_statementOK.ps
def i_statementOK.E : Env := ⟨tt, lkF [(79, i_within.fi), (118, i_isHash.fi)], 14, 0, [], []⟩
theorem i_statementOK.hok (hE : EOk Try.prog (i_statementOK.E)) : HintOk Try.prog i_statementOK.E (bodyOf Try.f124) (.a) := HintOk.n1 (Q := True) (by kernel_rfl) trivial
theorem i_statementOK.hE : EOk Try.prog (i_statementOK.E) := EOk.of ttOk (⟨i_within.fok, ⟨i_isHash.fok, trivial⟩⟩)
theorem i_statementOK.fok : FOk Try.prog 124 i_statementOK.fi :=
  fokS (E := i_statementOK.E) (wy := ⟨[[none]], [[]], []⟩) (h := (fun gs => .a)) (G := fun t g => i_statementOK.F (fun y0 => g y0) t.1.1 t.1.2.1 t.1.2.2.1) (by kernel_rfl) i_statementOK.hE Try.func124 (by kernel_rfl) rfl (Nat.le_refl _) (fun t => HintOk.n1 (by kernel_rfl) (i_statementOK.hok i_statementOK.hE)) (fun t g => i_statementOK_nat g t.1.1 t.1.2.1 t.1.2.2.1) (fun t => by kernel_rfl)
/-! loop.example_g00220_impl.TrustOK -/
def i_TrustOK.F {R : Type} (kk : Bool → Option R) (t_Key : ByteArray) (t_Has : Bool) (t_Size : Int) (t_Log : ByteArray) (t_Map : ByteArray) : Option R :=
  (i_isHash [t_Key]).bind fun r =>
  cond (!r) (kk false) (
    cond (!t_Has) (
      (i_Trust_last t_Key t_Has t_Size t_Log t_Map).bind fun r1 =>
      kk ((r1.1 == (0 : Int)) && ((sEq r1.2.1 ByteArray.empty) && (sEq r1.2.2 ByteArray.empty)))) (
      (i_Trust_last t_Key t_Has t_Size t_Log t_Map).bind fun r2 =>
      (i_statementOK r2.1 r2.2.1 r2.2.2).bind fun r3 =>
      kk r3))
theorem i_TrustOK.F_nat {R S : Type} (g : R → Option S) (kk : Bool → Option R) (t_Key : ByteArray) (t_Has : Bool) (t_Size : Int) (t_Log : ByteArray) (t_Map : ByteArray) : i_TrustOK.F (fun y0 => (kk y0).bind g) t_Key t_Has t_Size t_Log t_Map = (i_TrustOK.F kk t_Key t_Has t_Size t_Log t_Map).bind g := by
  simp only [i_TrustOK.F, grd_bind, cnd_bind, bnd_bind, non_bind]
def i_TrustOK (t_Key : ByteArray) (t_Has : Bool) (t_Size : Int) (t_Log : ByteArray) (t_Map : ByteArray) : Option Bool := i_TrustOK.F (fun y0 => some y0) t_Key t_Has t_Size t_Log t_Map
theorem i_TrustOK_nat {S : Type} (g : Bool → Option S) (t_Key : ByteArray) (t_Has : Bool) (t_Size : Int) (t_Log : ByteArray) (t_Map : ByteArray) : i_TrustOK.F (fun y0 => g y0) t_Key t_Has t_Size t_Log t_Map = (i_TrustOK t_Key t_Has t_Size t_Log t_Map).bind g := i_TrustOK.F_nat g (fun y0 => some y0) t_Key t_Has t_Size t_Log t_Map
def i_TrustOK.out : Bool → CRes := fun a => ⟨encL SV.enc [.one (.bool)] (a, ()), [encL SC.enc [] ()]⟩
def i_TrustOK.ps : List PS := [.val [none, none, none, none, none]]
def i_TrustOK.sA : List SA := [.v (.agg [.str, .bool, .int .i64, .str, .str])]
def i_TrustOK.fi : FI := FIs i_TrustOK.sA (Bool) (fun t => i_TrustOK t.1.1 t.1.2.1 t.1.2.2.1 t.1.2.2.2.1 t.1.2.2.2.2.1) i_TrustOK.out i_TrustOK.ps
def i_TrustOK.E : Env := ⟨tt, lkF [(118, i_isHash.fi), (123, i_Trust_last.fi), (124, i_statementOK.fi)], 18, 0, [], []⟩
theorem i_TrustOK.hok (hE : EOk Try.prog (i_TrustOK.E)) : HintOk Try.prog i_TrustOK.E (bodyOf Try.f78) (.a) := HintOk.n1 (Q := True) (by kernel_rfl) trivial
theorem i_TrustOK.hE : EOk Try.prog (i_TrustOK.E) := EOk.of ttOk (⟨i_isHash.fok, ⟨i_Trust_last.fok, ⟨i_statementOK.fok, trivial⟩⟩⟩)
theorem i_TrustOK.fok : FOk Try.prog 78 i_TrustOK.fi :=
  fokS (E := i_TrustOK.E) (wy := ⟨[[none]], [[]], []⟩) (h := (fun gs => .a)) (G := fun t g => i_TrustOK.F (fun y0 => g y0) t.1.1 t.1.2.1 t.1.2.2.1 t.1.2.2.2.1 t.1.2.2.2.2.1) (by kernel_rfl) i_TrustOK.hE Try.func78 (by kernel_rfl) rfl (Nat.le_refl _) (fun t => HintOk.n1 (by kernel_rfl) (i_TrustOK.hok i_TrustOK.hE)) (fun t g => i_TrustOK_nat g t.1.1 t.1.2.1 t.1.2.2.1 t.1.2.2.2.1 t.1.2.2.2.2.1) (fun t => by kernel_rfl)
/-! loop.example_g00220_impl.leafHash -/
def i_leafHash.F {R : Type} (kk : ByteArray → Option R) (data : ByteArray) : Option R :=
  grd (gCat (⟨#[0]⟩ : ByteArray) data) <|
  (i_hash ((⟨#[0]⟩ : ByteArray) ++ data)).bind fun r =>
  kk r
theorem i_leafHash.F_nat {R S : Type} (g : R → Option S) (kk : ByteArray → Option R) (data : ByteArray) : i_leafHash.F (fun y0 => (kk y0).bind g) data = (i_leafHash.F kk data).bind g := by
  simp only [i_leafHash.F, grd_bind, cnd_bind, bnd_bind, non_bind]
def i_leafHash (data : ByteArray) : Option ByteArray := i_leafHash.F (fun y0 => some y0) data
theorem i_leafHash_nat {S : Type} (g : ByteArray → Option S) (data : ByteArray) : i_leafHash.F (fun y0 => g y0) data = (i_leafHash data).bind g := i_leafHash.F_nat g (fun y0 => some y0) data
def i_leafHash.out : ByteArray → CRes := fun a => ⟨encL SV.enc [.one (.str)] (a, ()), [encL SC.enc [] ()]⟩
def i_leafHash.ps : List PS := [.val [none]]
def i_leafHash.sA : List SA := [.v (.one (.str))]
def i_leafHash.fi : FI := FIs i_leafHash.sA (ByteArray) (fun t => i_leafHash t.1) i_leafHash.out i_leafHash.ps
def i_leafHash.E : Env := ⟨tt, lkF [(85, i_hash.fi)], 6, 0, [], []⟩
theorem i_leafHash.hok (hE : EOk Try.prog (i_leafHash.E)) : HintOk Try.prog i_leafHash.E (bodyOf Try.f80) (.a) := HintOk.n1 (Q := True) (by kernel_rfl) trivial
theorem i_leafHash.hE : EOk Try.prog (i_leafHash.E) := EOk.of ttOk (⟨i_hash.fok, trivial⟩)
theorem i_leafHash.fok : FOk Try.prog 80 i_leafHash.fi :=
  fokS (E := i_leafHash.E) (wy := ⟨[[none]], [[]], []⟩) (h := (fun gs => .a)) (G := fun t g => i_leafHash.F (fun y0 => g y0) t.1) (by kernel_rfl) i_leafHash.hE Try.func80 (by kernel_rfl) rfl (Nat.le_refl _) (fun t => HintOk.n1 (by kernel_rfl) (i_leafHash.hok i_leafHash.hE)) (fun t g => i_leafHash_nat g t.1) (fun t => by kernel_rfl)
/-! loop.example_g00220_impl.CheckEntry -/
def i_CheckEntry.F {R : Type} (kk : Int → Option R) (t_Key : ByteArray) (t_Has : Bool) (t_Size : Int) (t_Log : ByteArray) (t_Map : ByteArray) (data : ByteArray) (at_ : Int) (proof : List ByteArray) : Option R :=
  cond (decide ((ByteArray.size data : Int) ≥ (65536 : Int))) (kk (2 : Int)) (
    (i_proofCode proof []).bind fun r =>
    cond (r != (0 : Int)) (kk r) (
      (i_TrustOK t_Key t_Has t_Size t_Log t_Map).bind fun r1 =>
      cond (!r1) (kk (1 : Int)) (
        cond (!t_Has) (kk (5 : Int)) (
          (i_within at_ (0 : Int) (IntKind.wrap .i64 (t_Size - (1 : Int)))).bind fun r2 =>
          cond (!r2) (kk (4 : Int)) (
            (i_leafHash data).bind fun r3 =>
            (i_inclusionRoot r3 at_ t_Size proof).bind fun r4 =>
            cond (r4.2.2 != (0 : Int)) (kk (10 : Int)) (cond (!(sEq r4.1 t_Log)) (kk (11 : Int)) (kk (0 : Int))))))))
theorem i_CheckEntry.F_nat {R S : Type} (g : R → Option S) (kk : Int → Option R) (t_Key : ByteArray) (t_Has : Bool) (t_Size : Int) (t_Log : ByteArray) (t_Map : ByteArray) (data : ByteArray) (at_ : Int) (proof : List ByteArray) : i_CheckEntry.F (fun y0 => (kk y0).bind g) t_Key t_Has t_Size t_Log t_Map data at_ proof = (i_CheckEntry.F kk t_Key t_Has t_Size t_Log t_Map data at_ proof).bind g := by
  simp only [i_CheckEntry.F, grd_bind, cnd_bind, bnd_bind, non_bind]
def i_CheckEntry (t_Key : ByteArray) (t_Has : Bool) (t_Size : Int) (t_Log : ByteArray) (t_Map : ByteArray) (data : ByteArray) (at_ : Int) (proof : List ByteArray) : Option Int := i_CheckEntry.F (fun y0 => some y0) t_Key t_Has t_Size t_Log t_Map data at_ proof
theorem i_CheckEntry_nat {S : Type} (g : Int → Option S) (t_Key : ByteArray) (t_Has : Bool) (t_Size : Int) (t_Log : ByteArray) (t_Map : ByteArray) (data : ByteArray) (at_ : Int) (proof : List ByteArray) : i_CheckEntry.F (fun y0 => g y0) t_Key t_Has t_Size t_Log t_Map data at_ proof = (i_CheckEntry t_Key t_Has t_Size t_Log t_Map data at_ proof).bind g := i_CheckEntry.F_nat g (fun y0 => some y0) t_Key t_Has t_Size t_Log t_Map data at_ proof
def i_CheckEntry.out : Int → CRes := fun a => ⟨encL SV.enc [.one (.int .i64)] (a, ()), [encL SC.enc [] (), encL SC.enc [] (), encL SC.enc [] (), encL SC.enc [] ()]⟩
def i_CheckEntry.ps : List PS := [.val [none, none, none, none, none], .val [none], .val [none], .val [some (.str, false)]]
def i_CheckEntry.sA : List SA := [.v (.agg [.str, .bool, .int .i64, .str, .str]), .v (.one (.str)), .v (.one (.int .i64)), .v (.one (.slv [] .str))]
def i_CheckEntry.fi : FI := FIs i_CheckEntry.sA (Int) (fun t => i_CheckEntry t.1.1 t.1.2.1 t.1.2.2.1 t.1.2.2.2.1 t.1.2.2.2.2.1 t.2.1 t.2.2.1 t.2.2.2.1) i_CheckEntry.out i_CheckEntry.ps
def i_CheckEntry.E : Env := ⟨tt, lkF [(72, i_proofCode.fi), (73, i_inclusionRoot.fi), (78, i_TrustOK.fi), (79, i_within.fi), (80, i_leafHash.fi)], 55, 0, [], []⟩
theorem i_CheckEntry.hok (hE : EOk Try.prog (i_CheckEntry.E)) : HintOk Try.prog i_CheckEntry.E (bodyOf Try.f33) (.a) := HintOk.n1 (Q := True) (by kernel_rfl) trivial
theorem i_CheckEntry.hE : EOk Try.prog (i_CheckEntry.E) := EOk.of ttOk (⟨i_proofCode.fok, ⟨i_inclusionRoot.fok, ⟨i_TrustOK.fok, ⟨i_within.fok, ⟨i_leafHash.fok, trivial⟩⟩⟩⟩⟩)
theorem i_CheckEntry.fok : FOk Try.prog 33 i_CheckEntry.fi :=
  fokS (E := i_CheckEntry.E) (wy := ⟨[[none]], [[], [], [], []], []⟩) (h := (fun gs => .a)) (G := fun t g => i_CheckEntry.F (fun y0 => g y0) t.1.1 t.1.2.1 t.1.2.2.1 t.1.2.2.2.1 t.1.2.2.2.2.1 t.2.1 t.2.2.1 t.2.2.2.1) (by kernel_rfl) i_CheckEntry.hE Try.func33 (by kernel_rfl) rfl (Nat.le_refl _) (fun t => HintOk.n1 (by kernel_rfl) (i_CheckEntry.hok i_CheckEntry.hE)) (fun t g => i_CheckEntry_nat g t.1.1 t.1.2.1 t.1.2.2.1 t.1.2.2.2.1 t.1.2.2.2.2.1 t.2.1 t.2.2.1 t.2.2.2.1) (fun t => by kernel_rfl)
/-! loop.example_g00220_laws.FnExactCheckEntry -/
def l_FnExactCheckEntry.F {R : Type} (kk : Bool → Option R) (aT_Key : ByteArray) (aT_Has : Bool) (aT_Size : Int) (aT_Log : ByteArray) (aT_Map : ByteArray) (aData : ByteArray) (aAt : Int) (aProof : List ByteArray) : Option R :=
  cond (decide ((ByteArray.size aData : Int) > (1048576 : Int))) (kk true) (
    (l_szTrust aT_Key aT_Has aT_Size aT_Log aT_Map (1048576 : Int)).bind fun r =>
    cond (decide (r < (0 : Int))) (kk true) (
      (l_szStringS aProof r).bind fun r1 =>
      cond (decide (r1 < (0 : Int))) (kk true) (
        (l_toTrust aT_Key aT_Has aT_Size aT_Log aT_Map).bind fun r2 =>
        (l_toStringS aProof).bind fun r3 =>
        (s_CheckEntry r2.1 r2.2.1 r2.2.2.1 r2.2.2.2.1 r2.2.2.2.2 aData aAt r3).bind fun r4 =>
        (l_toStringS aProof).bind fun r5 =>
        (l_toTrust aT_Key aT_Has aT_Size aT_Log aT_Map).bind fun r6 =>
        (i_CheckEntry r6.1 r6.2.1 r6.2.2.1 r6.2.2.2.1 r6.2.2.2.2 aData aAt r5).bind fun r7 =>
        cond (r7 != r4) (kk false) (
          (l_toStringS aProof).bind fun r8 =>
          (l_eqStringS r5 r8).bind fun r9 =>
          cond (!r9) (kk false) (kk true)))))
theorem l_FnExactCheckEntry.F_nat {R S : Type} (g : R → Option S) (kk : Bool → Option R) (aT_Key : ByteArray) (aT_Has : Bool) (aT_Size : Int) (aT_Log : ByteArray) (aT_Map : ByteArray) (aData : ByteArray) (aAt : Int) (aProof : List ByteArray) : l_FnExactCheckEntry.F (fun y0 => (kk y0).bind g) aT_Key aT_Has aT_Size aT_Log aT_Map aData aAt aProof = (l_FnExactCheckEntry.F kk aT_Key aT_Has aT_Size aT_Log aT_Map aData aAt aProof).bind g := by
  simp only [l_FnExactCheckEntry.F, grd_bind, cnd_bind, bnd_bind, non_bind]
def l_FnExactCheckEntry (aT_Key : ByteArray) (aT_Has : Bool) (aT_Size : Int) (aT_Log : ByteArray) (aT_Map : ByteArray) (aData : ByteArray) (aAt : Int) (aProof : List ByteArray) : Option Bool := l_FnExactCheckEntry.F (fun y0 => some y0) aT_Key aT_Has aT_Size aT_Log aT_Map aData aAt aProof
theorem l_FnExactCheckEntry_nat {S : Type} (g : Bool → Option S) (aT_Key : ByteArray) (aT_Has : Bool) (aT_Size : Int) (aT_Log : ByteArray) (aT_Map : ByteArray) (aData : ByteArray) (aAt : Int) (aProof : List ByteArray) : l_FnExactCheckEntry.F (fun y0 => g y0) aT_Key aT_Has aT_Size aT_Log aT_Map aData aAt aProof = (l_FnExactCheckEntry aT_Key aT_Has aT_Size aT_Log aT_Map aData aAt aProof).bind g := l_FnExactCheckEntry.F_nat g (fun y0 => some y0) aT_Key aT_Has aT_Size aT_Log aT_Map aData aAt aProof
def l_FnExactCheckEntry.out : Bool → CRes := fun a => ⟨encL SV.enc [.one (.bool)] (a, ()), [encL SC.enc [] (), encL SC.enc [] (), encL SC.enc [] (), encL SC.enc [] ()]⟩
def l_FnExactCheckEntry.ps : List PS := [.val [none, none, none, none, none], .val [none], .val [none], .val [some (.str, false)]]
def l_FnExactCheckEntry.sA : List SA := [.v (.agg [.str, .bool, .int .i64, .str, .str]), .v (.one (.str)), .v (.one (.int .i64)), .v (.one (.slv [] .str))]
def l_FnExactCheckEntry.fi : FI := FIs l_FnExactCheckEntry.sA (Bool) (fun t => l_FnExactCheckEntry t.1.1 t.1.2.1 t.1.2.2.1 t.1.2.2.2.1 t.1.2.2.2.2.1 t.2.1 t.2.2.1 t.2.2.2.1) l_FnExactCheckEntry.out l_FnExactCheckEntry.ps
def l_FnExactCheckEntry.E : Env := ⟨tt, lkF [(19, l_szStringS.fi), (21, l_toStringS.fi), (24, l_eqStringS.fi), (30, l_szTrust.fi), (31, s_CheckEntry.fi), (32, l_toTrust.fi), (33, i_CheckEntry.fi)], 49, 0, [], []⟩
theorem l_FnExactCheckEntry.hok (hE : EOk Try.prog (l_FnExactCheckEntry.E)) : HintOk Try.prog l_FnExactCheckEntry.E (bodyOf Try.f6) (.a) := HintOk.n1 (Q := True) (by kernel_rfl) trivial
theorem l_FnExactCheckEntry.hE : EOk Try.prog (l_FnExactCheckEntry.E) := EOk.of ttOk (⟨l_szStringS.fok, ⟨l_toStringS.fok, ⟨l_eqStringS.fok, ⟨l_szTrust.fok, ⟨s_CheckEntry.fok, ⟨l_toTrust.fok, ⟨i_CheckEntry.fok, trivial⟩⟩⟩⟩⟩⟩⟩)
theorem l_FnExactCheckEntry.fok : FOk Try.prog 6 l_FnExactCheckEntry.fi :=
  fokS (E := l_FnExactCheckEntry.E) (wy := ⟨[[none]], [[], [], [], []], []⟩) (h := (fun gs => .a)) (G := fun t g => l_FnExactCheckEntry.F (fun y0 => g y0) t.1.1 t.1.2.1 t.1.2.2.1 t.1.2.2.2.1 t.1.2.2.2.2.1 t.2.1 t.2.2.1 t.2.2.2.1) (by kernel_rfl) l_FnExactCheckEntry.hE Try.func6 (by kernel_rfl) rfl (Nat.le_refl _) (fun t => HintOk.n1 (by kernel_rfl) (l_FnExactCheckEntry.hok l_FnExactCheckEntry.hE)) (fun t g => l_FnExactCheckEntry_nat g t.1.1 t.1.2.1 t.1.2.2.1 t.1.2.2.2.1 t.1.2.2.2.2.1 t.2.1 t.2.2.1 t.2.2.2.1) (fun t => by kernel_rfl)
/-! loop.example_g00220_spec.l00Source -/
def s_l00Source.F {R : Type} (kk : List Int → Int → Int → Option R) (code : List Int) : Option R :=
  grd (gNz (1000 : Int)) <|
  kk code (0 : Int) (Int.tmod (List.length code : Int) (1000 : Int))
theorem s_l00Source.F_nat {R S : Type} (g : R → Option S) (kk : List Int → Int → Int → Option R) (code : List Int) : s_l00Source.F (fun y0 y1 y2 => (kk y0 y1 y2).bind g) code = (s_l00Source.F kk code).bind g := by
  simp only [s_l00Source.F, grd_bind, cnd_bind, bnd_bind, non_bind]
def s_l00Source (code : List Int) : Option (List Int × Int × Int) := s_l00Source.F (fun y0 y1 y2 => some (y0, y1, y2)) code
theorem s_l00Source_nat {S : Type} (g : (List Int × Int × Int) → Option S) (code : List Int) : s_l00Source.F (fun y0 y1 y2 => g (y0, y1, y2)) code = (s_l00Source code).bind g := s_l00Source.F_nat g (fun y0 y1 y2 => some (y0, y1, y2)) code
def s_l00Source.out : (List Int × Int × Int) → CRes := fun a => ⟨encL SV.enc [.pbx [.slv [1] (.int .u8), .int .i64, .int .i64]] ((a.1, a.2.1, a.2.2, ()), ()), [encL SC.enc [] ()]⟩
def s_l00Source.ps : List PS := [.val [some ((.int .u8), false)]]
def s_l00Source.sA : List SA := [.v (.one (.slv [] (.int .u8)))]
def s_l00Source.fi : FI := FIs s_l00Source.sA (List Int × Int × Int) (fun t => s_l00Source t.1) s_l00Source.out s_l00Source.ps
def s_l00Source.E : Env := ⟨tt, lkF [], 9, 0, [], []⟩
theorem s_l00Source.hok (hE : EOk Try.prog (s_l00Source.E)) : HintOk Try.prog s_l00Source.E (bodyOf Try.f45) (.a) := HintOk.n1 (Q := True) (by kernel_rfl) trivial
theorem s_l00Source.hE : EOk Try.prog (s_l00Source.E) := EOk.of ttOk (trivial)
theorem s_l00Source.fok : FOk Try.prog 45 s_l00Source.fi :=
  fokS (E := s_l00Source.E) (wy := ⟨[[some ((.int .u8), false), none, none]], [[]], []⟩) (h := (fun gs => .a)) (G := fun t g => s_l00Source.F (fun y0 y1 y2 => g (y0, y1, y2)) t.1) (by kernel_rfl) s_l00Source.hE Try.func45 (by kernel_rfl) rfl (Nat.le_refl _) (fun t => HintOk.n1 (by kernel_rfl) (s_l00Source.hok s_l00Source.hE)) (fun t g => s_l00Source_nat g t.1) (fun t => by kernel_rfl)
/-! __loop.example_g00220_spec.l00Src_.byte -/
def s_l00Src_byte.F {R : Type} (kk : Int → List Int → Int → Int → Option R) (s_code : List Int) (s_at : Int) (s_seed : Int) : Option R :=
  cond (decide ((IntKind.wrap .i64 (s_at + (1 : Int))) ≤ (List.length s_code : Int))) (
    grd (gIx (IntKind.wrap .i64 ((IntKind.wrap .i64 (s_at + (1 : Int))) - (1 : Int))) (List.length s_code)) <|
    grd (gNz (2147483648 : Int)) <|
    grd (gIx (IntKind.wrap .i64 ((IntKind.wrap .i64 (s_at + (1 : Int))) - (1 : Int))) (List.length s_code)) <|
    kk (IntKind.wrap .i64 (rdE (.int .u8 : Kd) s_code (Int.toNat (IntKind.wrap .i64 ((IntKind.wrap .i64 (s_at + (1 : Int))) - (1 : Int)))))) s_code (IntKind.wrap .i64 (s_at + (1 : Int))) (Int.tmod (IntKind.wrap .i64 ((IntKind.wrap .i64 ((IntKind.wrap .i64 (s_seed * (31 : Int))) + (IntKind.wrap .i64 (rdE (.int .u8 : Kd) s_code (Int.toNat (IntKind.wrap .i64 ((IntKind.wrap .i64 (s_at + (1 : Int))) - (1 : Int)))))))) + (7 : Int))) (2147483648 : Int))) (
    cond (decide ((IntKind.wrap .i64 (s_at + (1 : Int))) > (3000 : Int))) (kk (0 : Int) s_code (IntKind.wrap .i64 (s_at + (1 : Int))) s_seed) (
      grd (gNz (2147483648 : Int)) <|
      grd (gNz (65536 : Int)) <|
      grd (gNz (256 : Int)) <|
      kk (Int.tmod (IntKind.wrap .i64 (Int.tdiv (Int.tmod (IntKind.wrap .i64 ((IntKind.wrap .i64 (s_seed * (1103515245 : Int))) + (12345 : Int))) (2147483648 : Int)) (65536 : Int))) (256 : Int)) s_code (IntKind.wrap .i64 (s_at + (1 : Int))) (Int.tmod (IntKind.wrap .i64 ((IntKind.wrap .i64 (s_seed * (1103515245 : Int))) + (12345 : Int))) (2147483648 : Int))))
theorem s_l00Src_byte.F_nat {R S : Type} (g : R → Option S) (kk : Int → List Int → Int → Int → Option R) (s_code : List Int) (s_at : Int) (s_seed : Int) : s_l00Src_byte.F (fun y0 y1 y2 y3 => (kk y0 y1 y2 y3).bind g) s_code s_at s_seed = (s_l00Src_byte.F kk s_code s_at s_seed).bind g := by
  simp only [s_l00Src_byte.F, grd_bind, cnd_bind, bnd_bind, non_bind]
def s_l00Src_byte (s_code : List Int) (s_at : Int) (s_seed : Int) : Option (Int × List Int × Int × Int) := s_l00Src_byte.F (fun y0 y1 y2 y3 => some (y0, y1, y2, y3)) s_code s_at s_seed
theorem s_l00Src_byte_nat {S : Type} (g : (Int × List Int × Int × Int) → Option S) (s_code : List Int) (s_at : Int) (s_seed : Int) : s_l00Src_byte.F (fun y0 y1 y2 y3 => g (y0, y1, y2, y3)) s_code s_at s_seed = (s_l00Src_byte s_code s_at s_seed).bind g := s_l00Src_byte.F_nat g (fun y0 y1 y2 y3 => some (y0, y1, y2, y3)) s_code s_at s_seed
def s_l00Src_byte.out : (Int × List Int × Int × Int) → CRes := fun a => ⟨encL SV.enc [.one (.int .i64)] (a.1, ()), [encL SC.enc [.slv [1] (.int .u8), .int .i64, .int .i64] (a.2.1, a.2.2.1, a.2.2.2, ())]⟩
def s_l00Src_byte.ps : List PS := [.ptr [some ((.int .u8), false), none, none]]
def s_l00Src_byte.sA : List SA := [.ptr [.slv [] (.int .u8), .int .i64, .int .i64]]
def s_l00Src_byte.fi : FI := FIs s_l00Src_byte.sA (Int × List Int × Int × Int) (fun t => s_l00Src_byte t.1.1 t.1.2.1 t.1.2.2.1) s_l00Src_byte.out s_l00Src_byte.ps
def s_l00Src_byte.E : Env := ⟨tt, lkF [], 76, 1, [], []⟩
theorem s_l00Src_byte.hok (hE : EOk Try.prog (s_l00Src_byte.E)) : HintOk Try.prog s_l00Src_byte.E (bodyOf Try.f139) (.a) := HintOk.n1 (Q := True) (by kernel_rfl) trivial
theorem s_l00Src_byte.hE : EOk Try.prog (s_l00Src_byte.E) := EOk.of ttOk (trivial)
theorem s_l00Src_byte.fok : FOk Try.prog 139 s_l00Src_byte.fi :=
  fokS (E := s_l00Src_byte.E) (wy := ⟨[[none]], [[some ((.int .u8), false), none, none]], []⟩) (h := (fun gs => .a)) (G := fun t g => s_l00Src_byte.F (fun y0 y1 y2 y3 => g (y0, y1, y2, y3)) t.1.1 t.1.2.1 t.1.2.2.1) (by kernel_rfl) s_l00Src_byte.hE Try.func139 (by kernel_rfl) rfl (Nat.le_refl _) (fun t => HintOk.n1 (by kernel_rfl) (s_l00Src_byte.hok s_l00Src_byte.hE)) (fun t g => s_l00Src_byte_nat g t.1.1 t.1.2.1 t.1.2.2.1) (fun t => by kernel_rfl)
/-! __loop.example_g00220_spec.l00Src_.next -/
def s_l00Src_next.F {R : Type} (kk : Int → List Int → Int → Int → Option R) (s_code : List Int) (s_at : Int) (s_seed : Int) (n_ : Int) : Option R :=
  cond (decide (n_ ≤ (1 : Int))) (kk (0 : Int) s_code s_at s_seed) (
    cond (decide (n_ ≤ (256 : Int))) (
      (s_l00Src_byte s_code s_at s_seed).bind fun r =>
      grd (gNz n_) <|
      kk (Int.tmod r.1 n_) r.2.1 r.2.2.1 r.2.2.2) (
      (s_l00Src_byte s_code s_at s_seed).bind fun r1 =>
      (s_l00Src_byte r1.2.1 r1.2.2.1 r1.2.2.2).bind fun r2 =>
      (s_l00Src_byte r2.2.1 r2.2.2.1 r2.2.2.2).bind fun r3 =>
      grd (gNz n_) <|
      kk (Int.tmod (IntKind.wrap .i64 ((IntKind.wrap .i64 ((IntKind.wrap .i64 (r1.1 * (65536 : Int))) + (IntKind.wrap .i64 (r2.1 * (256 : Int))))) + r3.1)) n_) r3.2.1 r3.2.2.1 r3.2.2.2))
theorem s_l00Src_next.F_nat {R S : Type} (g : R → Option S) (kk : Int → List Int → Int → Int → Option R) (s_code : List Int) (s_at : Int) (s_seed : Int) (n_ : Int) : s_l00Src_next.F (fun y0 y1 y2 y3 => (kk y0 y1 y2 y3).bind g) s_code s_at s_seed n_ = (s_l00Src_next.F kk s_code s_at s_seed n_).bind g := by
  simp only [s_l00Src_next.F, grd_bind, cnd_bind, bnd_bind, non_bind]
def s_l00Src_next (s_code : List Int) (s_at : Int) (s_seed : Int) (n_ : Int) : Option (Int × List Int × Int × Int) := s_l00Src_next.F (fun y0 y1 y2 y3 => some (y0, y1, y2, y3)) s_code s_at s_seed n_
theorem s_l00Src_next_nat {S : Type} (g : (Int × List Int × Int × Int) → Option S) (s_code : List Int) (s_at : Int) (s_seed : Int) (n_ : Int) : s_l00Src_next.F (fun y0 y1 y2 y3 => g (y0, y1, y2, y3)) s_code s_at s_seed n_ = (s_l00Src_next s_code s_at s_seed n_).bind g := s_l00Src_next.F_nat g (fun y0 y1 y2 y3 => some (y0, y1, y2, y3)) s_code s_at s_seed n_
def s_l00Src_next.out : (Int × List Int × Int × Int) → CRes := fun a => ⟨encL SV.enc [.one (.int .i64)] (a.1, ()), [encL SC.enc [.slv [1] (.int .u8), .int .i64, .int .i64] (a.2.1, a.2.2.1, a.2.2.2, ()), encL SC.enc [] ()]⟩
def s_l00Src_next.ps : List PS := [.ptr [some ((.int .u8), false), none, none], .val [none]]
def s_l00Src_next.sA : List SA := [.ptr [.slv [] (.int .u8), .int .i64, .int .i64], .v (.one (.int .i64))]
def s_l00Src_next.fi : FI := FIs s_l00Src_next.sA (Int × List Int × Int × Int) (fun t => s_l00Src_next t.1.1 t.1.2.1 t.1.2.2.1 t.2.1) s_l00Src_next.out s_l00Src_next.ps
def s_l00Src_next.E : Env := ⟨tt, lkF [(139, s_l00Src_byte.fi)], 31, 1, [], []⟩
theorem s_l00Src_next.hok (hE : EOk Try.prog (s_l00Src_next.E)) : HintOk Try.prog s_l00Src_next.E (bodyOf Try.f91) (.a) := HintOk.n1 (Q := True) (by kernel_rfl) trivial
theorem s_l00Src_next.hE : EOk Try.prog (s_l00Src_next.E) := EOk.of ttOk (⟨s_l00Src_byte.fok, trivial⟩)
theorem s_l00Src_next.fok : FOk Try.prog 91 s_l00Src_next.fi :=
  fokS (E := s_l00Src_next.E) (wy := ⟨[[none]], [[some ((.int .u8), false), none, none], []], []⟩) (h := (fun gs => .a)) (G := fun t g => s_l00Src_next.F (fun y0 y1 y2 y3 => g (y0, y1, y2, y3)) t.1.1 t.1.2.1 t.1.2.2.1 t.2.1) (by kernel_rfl) s_l00Src_next.hE Try.func91 (by kernel_rfl) rfl (Nat.le_refl _) (fun t => HintOk.n1 (by kernel_rfl) (s_l00Src_next.hok s_l00Src_next.hE)) (fun t g => s_l00Src_next_nat g t.1.1 t.1.2.1 t.1.2.2.1 t.2.1) (fun t => by kernel_rfl)
/-! __loop.example_g00220_spec.l00Src_.pick -/
def s_l00Src_pick.F {R : Type} (kk : ByteArray → List Int → Int → Int → Option R) (s_code : List Int) (s_at : Int) (s_seed : Int) (list : List ByteArray) : Option R :=
  cond ((List.length list : Int) == (0 : Int)) (kk ByteArray.empty s_code s_at s_seed) (
    (s_l00Src_next s_code s_at s_seed (List.length list : Int)).bind fun r =>
    grd (gIx r.1 (List.length list)) <|
    kk (rdE (.str : Kd) list (Int.toNat r.1)) r.2.1 r.2.2.1 r.2.2.2)
theorem s_l00Src_pick.F_nat {R S : Type} (g : R → Option S) (kk : ByteArray → List Int → Int → Int → Option R) (s_code : List Int) (s_at : Int) (s_seed : Int) (list : List ByteArray) : s_l00Src_pick.F (fun y0 y1 y2 y3 => (kk y0 y1 y2 y3).bind g) s_code s_at s_seed list = (s_l00Src_pick.F kk s_code s_at s_seed list).bind g := by
  simp only [s_l00Src_pick.F, grd_bind, cnd_bind, bnd_bind, non_bind]
def s_l00Src_pick (s_code : List Int) (s_at : Int) (s_seed : Int) (list : List ByteArray) : Option (ByteArray × List Int × Int × Int) := s_l00Src_pick.F (fun y0 y1 y2 y3 => some (y0, y1, y2, y3)) s_code s_at s_seed list
theorem s_l00Src_pick_nat {S : Type} (g : (ByteArray × List Int × Int × Int) → Option S) (s_code : List Int) (s_at : Int) (s_seed : Int) (list : List ByteArray) : s_l00Src_pick.F (fun y0 y1 y2 y3 => g (y0, y1, y2, y3)) s_code s_at s_seed list = (s_l00Src_pick s_code s_at s_seed list).bind g := s_l00Src_pick.F_nat g (fun y0 y1 y2 y3 => some (y0, y1, y2, y3)) s_code s_at s_seed list
def s_l00Src_pick.out : (ByteArray × List Int × Int × Int) → CRes := fun a => ⟨encL SV.enc [.one (.str)] (a.1, ()), [encL SC.enc [.slv [1] (.int .u8), .int .i64, .int .i64] (a.2.1, a.2.2.1, a.2.2.2, ()), encL SC.enc [] ()]⟩
def s_l00Src_pick.ps : List PS := [.ptr [some ((.int .u8), false), none, none], .val [some (.str, false)]]
def s_l00Src_pick.sA : List SA := [.ptr [.slv [] (.int .u8), .int .i64, .int .i64], .v (.one (.slv [] .str))]
def s_l00Src_pick.fi : FI := FIs s_l00Src_pick.sA (ByteArray × List Int × Int × Int) (fun t => s_l00Src_pick t.1.1 t.1.2.1 t.1.2.2.1 t.2.1) s_l00Src_pick.out s_l00Src_pick.ps
def s_l00Src_pick.E : Env := ⟨tt, lkF [(91, s_l00Src_next.fi)], 15, 1, [], []⟩
theorem s_l00Src_pick.hok (hE : EOk Try.prog (s_l00Src_pick.E)) : HintOk Try.prog s_l00Src_pick.E (bodyOf Try.f101) (.a) := HintOk.n1 (Q := True) (by kernel_rfl) trivial
theorem s_l00Src_pick.hE : EOk Try.prog (s_l00Src_pick.E) := EOk.of ttOk (⟨s_l00Src_next.fok, trivial⟩)
theorem s_l00Src_pick.fok : FOk Try.prog 101 s_l00Src_pick.fi :=
  fokS (E := s_l00Src_pick.E) (wy := ⟨[[none]], [[some ((.int .u8), false), none, none], []], []⟩) (h := (fun gs => .a)) (G := fun t g => s_l00Src_pick.F (fun y0 y1 y2 y3 => g (y0, y1, y2, y3)) t.1.1 t.1.2.1 t.1.2.2.1 t.2.1) (by kernel_rfl) s_l00Src_pick.hE Try.func101 (by kernel_rfl) rfl (Nat.le_refl _) (fun t => HintOk.n1 (by kernel_rfl) (s_l00Src_pick.hok s_l00Src_pick.hE)) (fun t g => s_l00Src_pick_nat g t.1.1 t.1.2.1 t.1.2.2.1 t.2.1) (fun t => by kernel_rfl)
/-! __loop.example_g00220_spec.l00Src_.key -/
def s_l00Src_key.F {R : Type} (kk : ByteArray → List Int → Int → Int → Option R) (s_code : List Int) (s_at : Int) (s_seed : Int) : Option R :=
  (s_l00Src_pick s_code s_at s_seed [(⟨#[97]⟩ : ByteArray), (⟨#[98]⟩ : ByteArray), (⟨#[99]⟩ : ByteArray), (⟨#[97, 108, 112, 104, 97]⟩ : ByteArray), (⟨#[98, 101, 116, 97]⟩ : ByteArray)]).bind fun r =>
  kk r.1 r.2.1 r.2.2.1 r.2.2.2
theorem s_l00Src_key.F_nat {R S : Type} (g : R → Option S) (kk : ByteArray → List Int → Int → Int → Option R) (s_code : List Int) (s_at : Int) (s_seed : Int) : s_l00Src_key.F (fun y0 y1 y2 y3 => (kk y0 y1 y2 y3).bind g) s_code s_at s_seed = (s_l00Src_key.F kk s_code s_at s_seed).bind g := by
  simp only [s_l00Src_key.F, grd_bind, cnd_bind, bnd_bind, non_bind]
def s_l00Src_key (s_code : List Int) (s_at : Int) (s_seed : Int) : Option (ByteArray × List Int × Int × Int) := s_l00Src_key.F (fun y0 y1 y2 y3 => some (y0, y1, y2, y3)) s_code s_at s_seed
theorem s_l00Src_key_nat {S : Type} (g : (ByteArray × List Int × Int × Int) → Option S) (s_code : List Int) (s_at : Int) (s_seed : Int) : s_l00Src_key.F (fun y0 y1 y2 y3 => g (y0, y1, y2, y3)) s_code s_at s_seed = (s_l00Src_key s_code s_at s_seed).bind g := s_l00Src_key.F_nat g (fun y0 y1 y2 y3 => some (y0, y1, y2, y3)) s_code s_at s_seed
def s_l00Src_key.out : (ByteArray × List Int × Int × Int) → CRes := fun a => ⟨encL SV.enc [.one (.str)] (a.1, ()), [encL SC.enc [.slv [1] (.int .u8), .int .i64, .int .i64] (a.2.1, a.2.2.1, a.2.2.2, ())]⟩
def s_l00Src_key.ps : List PS := [.ptr [some ((.int .u8), false), none, none]]
def s_l00Src_key.sA : List SA := [.ptr [.slv [] (.int .u8), .int .i64, .int .i64]]
def s_l00Src_key.fi : FI := FIs s_l00Src_key.sA (ByteArray × List Int × Int × Int) (fun t => s_l00Src_key t.1.1 t.1.2.1 t.1.2.2.1) s_l00Src_key.out s_l00Src_key.ps
def s_l00Src_key.E : Env := ⟨tt, lkF [(101, s_l00Src_pick.fi)], 6, 1, [], []⟩
theorem s_l00Src_key.hok (hE : EOk Try.prog (s_l00Src_key.E)) : HintOk Try.prog s_l00Src_key.E (bodyOf Try.f92) (.a) := HintOk.n1 (Q := True) (by kernel_rfl) trivial
theorem s_l00Src_key.hE : EOk Try.prog (s_l00Src_key.E) := EOk.of ttOk (⟨s_l00Src_pick.fok, trivial⟩)
theorem s_l00Src_key.fok : FOk Try.prog 92 s_l00Src_key.fi :=
  fokS (E := s_l00Src_key.E) (wy := ⟨[[none]], [[some ((.int .u8), false), none, none]], []⟩) (h := (fun gs => .a)) (G := fun t g => s_l00Src_key.F (fun y0 y1 y2 y3 => g (y0, y1, y2, y3)) t.1.1 t.1.2.1 t.1.2.2.1) (by kernel_rfl) s_l00Src_key.hE Try.func92 (by kernel_rfl) rfl (Nat.le_refl _) (fun t => HintOk.n1 (by kernel_rfl) (s_l00Src_key.hok s_l00Src_key.hE)) (fun t g => s_l00Src_key_nat g t.1.1 t.1.2.1 t.1.2.2.1) (fun t => by kernel_rfl)
/-! __loop.example_g00220_spec.l00Src_.datum -/
def s_l00Src_datum.F {R : Type} (kk : ByteArray → List Int → Int → Int → Option R) (s_code : List Int) (s_at : Int) (s_seed : Int) : Option R :=
  (s_l00Src_pick s_code s_at s_seed [ByteArray.empty, (⟨#[49]⟩ : ByteArray), (⟨#[50]⟩ : ByteArray), (⟨#[120]⟩ : ByteArray), (⟨#[108, 111, 110, 103, 101, 114, 32, 118, 97, 108, 117, 101]⟩ : ByteArray)]).bind fun r =>
  kk r.1 r.2.1 r.2.2.1 r.2.2.2
theorem s_l00Src_datum.F_nat {R S : Type} (g : R → Option S) (kk : ByteArray → List Int → Int → Int → Option R) (s_code : List Int) (s_at : Int) (s_seed : Int) : s_l00Src_datum.F (fun y0 y1 y2 y3 => (kk y0 y1 y2 y3).bind g) s_code s_at s_seed = (s_l00Src_datum.F kk s_code s_at s_seed).bind g := by
  simp only [s_l00Src_datum.F, grd_bind, cnd_bind, bnd_bind, non_bind]
def s_l00Src_datum (s_code : List Int) (s_at : Int) (s_seed : Int) : Option (ByteArray × List Int × Int × Int) := s_l00Src_datum.F (fun y0 y1 y2 y3 => some (y0, y1, y2, y3)) s_code s_at s_seed
theorem s_l00Src_datum_nat {S : Type} (g : (ByteArray × List Int × Int × Int) → Option S) (s_code : List Int) (s_at : Int) (s_seed : Int) : s_l00Src_datum.F (fun y0 y1 y2 y3 => g (y0, y1, y2, y3)) s_code s_at s_seed = (s_l00Src_datum s_code s_at s_seed).bind g := s_l00Src_datum.F_nat g (fun y0 y1 y2 y3 => some (y0, y1, y2, y3)) s_code s_at s_seed
def s_l00Src_datum.out : (ByteArray × List Int × Int × Int) → CRes := fun a => ⟨encL SV.enc [.one (.str)] (a.1, ()), [encL SC.enc [.slv [1] (.int .u8), .int .i64, .int .i64] (a.2.1, a.2.2.1, a.2.2.2, ())]⟩
def s_l00Src_datum.ps : List PS := [.ptr [some ((.int .u8), false), none, none]]
def s_l00Src_datum.sA : List SA := [.ptr [.slv [] (.int .u8), .int .i64, .int .i64]]
def s_l00Src_datum.fi : FI := FIs s_l00Src_datum.sA (ByteArray × List Int × Int × Int) (fun t => s_l00Src_datum t.1.1 t.1.2.1 t.1.2.2.1) s_l00Src_datum.out s_l00Src_datum.ps
def s_l00Src_datum.E : Env := ⟨tt, lkF [(101, s_l00Src_pick.fi)], 6, 1, [], []⟩
theorem s_l00Src_datum.hok (hE : EOk Try.prog (s_l00Src_datum.E)) : HintOk Try.prog s_l00Src_datum.E (bodyOf Try.f93) (.a) := HintOk.n1 (Q := True) (by kernel_rfl) trivial
theorem s_l00Src_datum.hE : EOk Try.prog (s_l00Src_datum.E) := EOk.of ttOk (⟨s_l00Src_pick.fok, trivial⟩)
theorem s_l00Src_datum.fok : FOk Try.prog 93 s_l00Src_datum.fi :=
  fokS (E := s_l00Src_datum.E) (wy := ⟨[[none]], [[some ((.int .u8), false), none, none]], []⟩) (h := (fun gs => .a)) (G := fun t g => s_l00Src_datum.F (fun y0 y1 y2 y3 => g (y0, y1, y2, y3)) t.1.1 t.1.2.1 t.1.2.2.1) (by kernel_rfl) s_l00Src_datum.hE Try.func93 (by kernel_rfl) rfl (Nat.le_refl _) (fun t => HintOk.n1 (by kernel_rfl) (s_l00Src_datum.hok s_l00Src_datum.hE)) (fun t g => s_l00Src_datum_nat g t.1.1 t.1.2.1 t.1.2.2.1) (fun t => by kernel_rfl)
/-! __loop.example_g00220_spec.l00Src_.chance -/
def s_l00Src_chance.F {R : Type} (kk : Bool → List Int → Int → Int → Option R) (s_code : List Int) (s_at : Int) (s_seed : Int) (n_ : Int) : Option R :=
  (s_l00Src_next s_code s_at s_seed n_).bind fun r =>
  kk (r.1 == (IntKind.wrap .i64 (n_ - (1 : Int)))) r.2.1 r.2.2.1 r.2.2.2
theorem s_l00Src_chance.F_nat {R S : Type} (g : R → Option S) (kk : Bool → List Int → Int → Int → Option R) (s_code : List Int) (s_at : Int) (s_seed : Int) (n_ : Int) : s_l00Src_chance.F (fun y0 y1 y2 y3 => (kk y0 y1 y2 y3).bind g) s_code s_at s_seed n_ = (s_l00Src_chance.F kk s_code s_at s_seed n_).bind g := by
  simp only [s_l00Src_chance.F, grd_bind, cnd_bind, bnd_bind, non_bind]
def s_l00Src_chance (s_code : List Int) (s_at : Int) (s_seed : Int) (n_ : Int) : Option (Bool × List Int × Int × Int) := s_l00Src_chance.F (fun y0 y1 y2 y3 => some (y0, y1, y2, y3)) s_code s_at s_seed n_
theorem s_l00Src_chance_nat {S : Type} (g : (Bool × List Int × Int × Int) → Option S) (s_code : List Int) (s_at : Int) (s_seed : Int) (n_ : Int) : s_l00Src_chance.F (fun y0 y1 y2 y3 => g (y0, y1, y2, y3)) s_code s_at s_seed n_ = (s_l00Src_chance s_code s_at s_seed n_).bind g := s_l00Src_chance.F_nat g (fun y0 y1 y2 y3 => some (y0, y1, y2, y3)) s_code s_at s_seed n_
def s_l00Src_chance.out : (Bool × List Int × Int × Int) → CRes := fun a => ⟨encL SV.enc [.one (.bool)] (a.1, ()), [encL SC.enc [.slv [1] (.int .u8), .int .i64, .int .i64] (a.2.1, a.2.2.1, a.2.2.2, ()), encL SC.enc [] ()]⟩
def s_l00Src_chance.ps : List PS := [.ptr [some ((.int .u8), false), none, none], .val [none]]
def s_l00Src_chance.sA : List SA := [.ptr [.slv [] (.int .u8), .int .i64, .int .i64], .v (.one (.int .i64))]
def s_l00Src_chance.fi : FI := FIs s_l00Src_chance.sA (Bool × List Int × Int × Int) (fun t => s_l00Src_chance t.1.1 t.1.2.1 t.1.2.2.1 t.2.1) s_l00Src_chance.out s_l00Src_chance.ps
def s_l00Src_chance.E : Env := ⟨tt, lkF [(91, s_l00Src_next.fi)], 11, 1, [], []⟩
theorem s_l00Src_chance.hok (hE : EOk Try.prog (s_l00Src_chance.E)) : HintOk Try.prog s_l00Src_chance.E (bodyOf Try.f94) (.a) := HintOk.n1 (Q := True) (by kernel_rfl) trivial
theorem s_l00Src_chance.hE : EOk Try.prog (s_l00Src_chance.E) := EOk.of ttOk (⟨s_l00Src_next.fok, trivial⟩)
theorem s_l00Src_chance.fok : FOk Try.prog 94 s_l00Src_chance.fi :=
  fokS (E := s_l00Src_chance.E) (wy := ⟨[[none]], [[some ((.int .u8), false), none, none], []], []⟩) (h := (fun gs => .a)) (G := fun t g => s_l00Src_chance.F (fun y0 y1 y2 y3 => g (y0, y1, y2, y3)) t.1.1 t.1.2.1 t.1.2.2.1 t.2.1) (by kernel_rfl) s_l00Src_chance.hE Try.func94 (by kernel_rfl) rfl (Nat.le_refl _) (fun t => HintOk.n1 (by kernel_rfl) (s_l00Src_chance.hok s_l00Src_chance.hE)) (fun t g => s_l00Src_chance_nat g t.1.1 t.1.2.1 t.1.2.2.1 t.2.1) (fun t => by kernel_rfl)
/-! __loop.example_g00220_spec.l00Src_.command -/
def s_l00Src_command.j1 {R : Type} (kkn : List Int → Int → Int → Int → Int → Int → ByteArray → ByteArray → Int → Int → Int → ByteArray → ByteArray → Option R) (s : List Int) (s1 : Int) (s2 : Int) (i : Int) (i1 : Int) (i2 : Int) (s3 : ByteArray) (s4 : ByteArray) (c : Int) (c1 : Int) (c2 : Int) (c3 : ByteArray) (c4 : ByteArray) : Option R :=
  cond (c == (3 : Int)) (kkn s s1 s2 i i1 i2 s3 s4 c c1 c2 c3 ByteArray.empty) (kkn s s1 s2 i i1 i2 s3 s4 c c1 c2 c3 c4)
theorem s_l00Src_command.j1_nat {R S : Type} (g : R → Option S) (kkn : List Int → Int → Int → Int → Int → Int → ByteArray → ByteArray → Int → Int → Int → ByteArray → ByteArray → Option R) (s : List Int) (s1 : Int) (s2 : Int) (i : Int) (i1 : Int) (i2 : Int) (s3 : ByteArray) (s4 : ByteArray) (c : Int) (c1 : Int) (c2 : Int) (c3 : ByteArray) (c4 : ByteArray) : s_l00Src_command.j1 (fun y0 y1 y2 y3 y4 y5 y6 y7 y8 y9 y10 y11 y12 => (kkn y0 y1 y2 y3 y4 y5 y6 y7 y8 y9 y10 y11 y12).bind g) s s1 s2 i i1 i2 s3 s4 c c1 c2 c3 c4 = (s_l00Src_command.j1 kkn s s1 s2 i i1 i2 s3 s4 c c1 c2 c3 c4).bind g := by
  simp only [s_l00Src_command.j1, grd_bind, cnd_bind, bnd_bind, non_bind]
def s_l00Src_command.F {R : Type} (kk : Int → Int → Int → ByteArray → ByteArray → List Int → Int → Int → Option R) (s_code : List Int) (s_at : Int) (s_seed : Int) : Option R :=
  (s_l00Src_next s_code s_at s_seed (5 : Int)).bind fun r =>
  grd (gIx r.1 (List.length [(1 : Int), (1 : Int), (2 : Int), (2 : Int), (3 : Int)])) <|
  (s_l00Src_next r.2.1 r.2.2.1 r.2.2.2 (3 : Int)).bind fun r1 =>
  (s_l00Src_next r1.2.1 r1.2.2.1 r1.2.2.2 (5 : Int)).bind fun r2 =>
  (s_l00Src_key r2.2.1 r2.2.2.1 r2.2.2.2).bind fun r3 =>
  (s_l00Src_datum r3.2.1 r3.2.2.1 r3.2.2.2).bind fun r4 =>
  s_l00Src_command.j1 (fun s s1 s2 i i1 i2 s3 s4 c c1 c2 c3 c4 =>
    (s_l00Src_chance s s1 s2 (4 : Int)).bind fun r5 =>
    cond (r5.1) (
      (s_l00Src_next r5.2.1 r5.2.2.1 r5.2.2.2 (2 : Int)).bind fun r6 =>
      (s_l00Src_next r6.2.1 r6.2.2.1 r6.2.2.2 (3 : Int)).bind fun r7 =>
      kk (IntKind.wrap .i64 ((4 : Int) + r6.1)) (IntKind.wrap .i64 ((1 : Int) + r7.1)) (0 : Int) ByteArray.empty ByteArray.empty r7.2.1 r7.2.2.1 r7.2.2.2) (kk c c1 c2 c3 c4 r5.2.1 r5.2.2.1 r5.2.2.2)) r4.2.1 r4.2.2.1 r4.2.2.2 (0 : Int) (0 : Int) (0 : Int) ByteArray.empty ByteArray.empty (rdE (.int .i64 : Kd) [(1 : Int), (1 : Int), (2 : Int), (2 : Int), (3 : Int)] (Int.toNat r.1)) (IntKind.wrap .i64 ((1 : Int) + r1.1)) (IntKind.wrap .i64 ((1 : Int) + r2.1)) r3.1 r4.1
theorem s_l00Src_command.F_nat {R S : Type} (g : R → Option S) (kk : Int → Int → Int → ByteArray → ByteArray → List Int → Int → Int → Option R) (s_code : List Int) (s_at : Int) (s_seed : Int) : s_l00Src_command.F (fun y0 y1 y2 y3 y4 y5 y6 y7 => (kk y0 y1 y2 y3 y4 y5 y6 y7).bind g) s_code s_at s_seed = (s_l00Src_command.F kk s_code s_at s_seed).bind g := by
  simp only [s_l00Src_command.F, grd_bind, cnd_bind, bnd_bind, non_bind, ← s_l00Src_command.j1_nat]
def s_l00Src_command (s_code : List Int) (s_at : Int) (s_seed : Int) : Option (Int × Int × Int × ByteArray × ByteArray × List Int × Int × Int) := s_l00Src_command.F (fun y0 y1 y2 y3 y4 y5 y6 y7 => some (y0, y1, y2, y3, y4, y5, y6, y7)) s_code s_at s_seed
theorem s_l00Src_command_nat {S : Type} (g : (Int × Int × Int × ByteArray × ByteArray × List Int × Int × Int) → Option S) (s_code : List Int) (s_at : Int) (s_seed : Int) : s_l00Src_command.F (fun y0 y1 y2 y3 y4 y5 y6 y7 => g (y0, y1, y2, y3, y4, y5, y6, y7)) s_code s_at s_seed = (s_l00Src_command s_code s_at s_seed).bind g := s_l00Src_command.F_nat g (fun y0 y1 y2 y3 y4 y5 y6 y7 => some (y0, y1, y2, y3, y4, y5, y6, y7)) s_code s_at s_seed
def s_l00Src_command.out : (Int × Int × Int × ByteArray × ByteArray × List Int × Int × Int) → CRes := fun a => ⟨encL SV.enc [.agg [.int .i64, .int .i64, .int .i64, .str, .str]] ((a.1, a.2.1, a.2.2.1, a.2.2.2.1, a.2.2.2.2.1, ()), ()), [encL SC.enc [.slv [1] (.int .u8), .int .i64, .int .i64] (a.2.2.2.2.2.1, a.2.2.2.2.2.2.1, a.2.2.2.2.2.2.2, ())]⟩
def s_l00Src_command.ps : List PS := [.ptr [some ((.int .u8), false), none, none]]
def s_l00Src_command.sA : List SA := [.ptr [.slv [] (.int .u8), .int .i64, .int .i64]]
def s_l00Src_command.fi : FI := FIs s_l00Src_command.sA (Int × Int × Int × ByteArray × ByteArray × List Int × Int × Int) (fun t => s_l00Src_command t.1.1 t.1.2.1 t.1.2.2.1) s_l00Src_command.out s_l00Src_command.ps
def s_l00Src_command.E : Env := ⟨tt, lkF [(91, s_l00Src_next.fi), (92, s_l00Src_key.fi), (93, s_l00Src_datum.fi), (94, s_l00Src_chance.fi)], 34, 1, [], []⟩
def s_l00Src_command.sh1 : SK := ⟨[.v (.one (.bptr 0 0)), .v (.one (.bptr 1 0)), .v (.one (.bptr 2 0))], [.box [.slv [1] (.int .u8), .int .i64, .int .i64], .box [.int .i64, .int .i64, .int .i64, .str, .str], .box [.int .i64, .int .i64, .int .i64, .str, .str]]⟩
def s_l00Src_command.sh1n : SK := ⟨[.v (.one (.bptr 0 0)), .v (.one (.bptr 1 0)), .v (.one (.bptr 2 0))], [.box [.slv [1] (.int .u8), .int .i64, .int .i64], .box [.int .i64, .int .i64, .int .i64, .str, .str], .box [.int .i64, .int .i64, .int .i64, .str, .str]]⟩
def s_l00Src_command.ko1 : Ex → List CastAt × List Nat
  | .nrm => ([], [0, 2, 3])
  | .ret => ([], [])
  | .ext i => ([], [])
def s_l00Src_command.G1 (R : Type) (t : s_l00Src_command.sh1.T) (K : Ex → Kp → Option R) : Option R := s_l00Src_command.j1 (fun y0 y1 y2 y3 y4 y5 y6 y7 y8 y9 y10 y11 y12 => K .nrm (SK.enc s_l00Src_command.sh1n (((), (), (), ()), ((y0, y1, y2, ()), (y3, y4, y5, y6, y7, ()), (y8, y9, y10, y11, y12, ()), ())))) t.2.1.1 t.2.1.2.1 t.2.1.2.2.1 t.2.2.1.1 t.2.2.1.2.1 t.2.2.1.2.2.1 t.2.2.1.2.2.2.1 t.2.2.1.2.2.2.2.1 t.2.2.2.1.1 t.2.2.2.1.2.1 t.2.2.2.1.2.2.1 t.2.2.2.1.2.2.2.1 t.2.2.2.1.2.2.2.2.1
def s_l00Src_command.S1 : Sum := ⟨([], [0, 2, 3]), sumF s_l00Src_command.sh1 (s_l00Src_command.G1), s_l00Src_command.ko1⟩
theorem s_l00Src_command.ok1 (hE : EOk Try.prog (s_l00Src_command.E)) : SumOk Try.prog s_l00Src_command.E (cL (cR (cR (bodyOf Try.f46)))) (s_l00Src_command.S1) := by
  have hh : HintOk Try.prog s_l00Src_command.E (cL (cR (cR (bodyOf Try.f46)))) (.a) := HintOk.n1 (Q := True) (by kernel_rfl) trivial
  exact sumS (kin := ([], [0, 2, 3])) (kout := s_l00Src_command.ko1) (sh := s_l00Src_command.sh1) (F := s_l00Src_command.G1) (ops_ok (hE.gv _)) (by kernel_rfl) hh (fun R t K => by kernel_rfl)
theorem s_l00Src_command.hok (hE : EOk Try.prog (s_l00Src_command.E)) : HintOk Try.prog s_l00Src_command.E (bodyOf Try.f46) (.n (.a) (.n (.a) (.n (.s (s_l00Src_command.S1)) (.a)))) := HintOk.n1 (Q := (True) ∧ ((True) ∧ ((SumOk Try.prog s_l00Src_command.E (cL (cR (cR (bodyOf Try.f46)))) (s_l00Src_command.S1)) ∧ (True)))) (by kernel_rfl) ⟨trivial, ⟨trivial, ⟨(s_l00Src_command.ok1 hE), trivial⟩⟩⟩
theorem s_l00Src_command.hE : EOk Try.prog (s_l00Src_command.E) := EOk.of ttOk (⟨s_l00Src_next.fok, ⟨s_l00Src_key.fok, ⟨s_l00Src_datum.fok, ⟨s_l00Src_chance.fok, trivial⟩⟩⟩⟩)
theorem s_l00Src_command.fok : FOk Try.prog 46 s_l00Src_command.fi :=
  fokS (E := s_l00Src_command.E) (wy := ⟨[[none, none, none, none, none]], [[some ((.int .u8), false), none, none]], []⟩) (h := (fun gs => .n (.a) (.n (.a) (.n (.s (s_l00Src_command.S1)) (.a))))) (G := fun t g => s_l00Src_command.F (fun y0 y1 y2 y3 y4 y5 y6 y7 => g (y0, y1, y2, y3, y4, y5, y6, y7)) t.1.1 t.1.2.1 t.1.2.2.1) (by kernel_rfl) s_l00Src_command.hE Try.func46 (by kernel_rfl) rfl (Nat.le_refl _) (fun t => HintOk.n1 (by kernel_rfl) (s_l00Src_command.hok s_l00Src_command.hE)) (fun t g => s_l00Src_command_nat g t.1.1 t.1.2.1 t.1.2.2.1) (fun t => by kernel_rfl)
/-! loop.example_g00220_spec.CommandOf -/
def s_CommandOf.F {R : Type} (kk : Int → Int → Int → ByteArray → ByteArray → Option R) (code : List Int) : Option R :=
  (s_l00Source code).bind fun r =>
  (s_l00Src_command r.1 r.2.1 r.2.2).bind fun r1 =>
  kk r1.1 r1.2.1 r1.2.2.1 r1.2.2.2.1 r1.2.2.2.2.1
theorem s_CommandOf.F_nat {R S : Type} (g : R → Option S) (kk : Int → Int → Int → ByteArray → ByteArray → Option R) (code : List Int) : s_CommandOf.F (fun y0 y1 y2 y3 y4 => (kk y0 y1 y2 y3 y4).bind g) code = (s_CommandOf.F kk code).bind g := by
  simp only [s_CommandOf.F, grd_bind, cnd_bind, bnd_bind, non_bind]
def s_CommandOf (code : List Int) : Option (Int × Int × Int × ByteArray × ByteArray) := s_CommandOf.F (fun y0 y1 y2 y3 y4 => some (y0, y1, y2, y3, y4)) code
theorem s_CommandOf_nat {S : Type} (g : (Int × Int × Int × ByteArray × ByteArray) → Option S) (code : List Int) : s_CommandOf.F (fun y0 y1 y2 y3 y4 => g (y0, y1, y2, y3, y4)) code = (s_CommandOf code).bind g := s_CommandOf.F_nat g (fun y0 y1 y2 y3 y4 => some (y0, y1, y2, y3, y4)) code
def s_CommandOf.out : (Int × Int × Int × ByteArray × ByteArray) → CRes := fun a => ⟨encL SV.enc [.agg [.int .i64, .int .i64, .int .i64, .str, .str]] ((a.1, a.2.1, a.2.2.1, a.2.2.2.1, a.2.2.2.2, ()), ()), [encL SC.enc [] ()]⟩
def s_CommandOf.ps : List PS := [.val [some ((.int .u8), false)]]
def s_CommandOf.sA : List SA := [.v (.one (.slv [] (.int .u8)))]
def s_CommandOf.fi : FI := FIs s_CommandOf.sA (Int × Int × Int × ByteArray × ByteArray) (fun t => s_CommandOf t.1) s_CommandOf.out s_CommandOf.ps
def s_CommandOf.E : Env := ⟨tt, lkF [(45, s_l00Source.fi), (46, s_l00Src_command.fi)], 6, 0, [], []⟩
theorem s_CommandOf.hok (hE : EOk Try.prog (s_CommandOf.E)) : HintOk Try.prog s_CommandOf.E (bodyOf Try.f9) (.a) := HintOk.n1 (Q := True) (by kernel_rfl) trivial
theorem s_CommandOf.hE : EOk Try.prog (s_CommandOf.E) := EOk.of ttOk (⟨s_l00Source.fok, ⟨s_l00Src_command.fok, trivial⟩⟩)
theorem s_CommandOf.fok : FOk Try.prog 9 s_CommandOf.fi :=
  fokS (E := s_CommandOf.E) (wy := ⟨[[none, none, none, none, none]], [[]], []⟩) (h := (fun gs => .a)) (G := fun t g => s_CommandOf.F (fun y0 y1 y2 y3 y4 => g (y0, y1, y2, y3, y4)) t.1) (by kernel_rfl) s_CommandOf.hE Try.func9 (by kernel_rfl) rfl (Nat.le_refl _) (fun t => HintOk.n1 (by kernel_rfl) (s_CommandOf.hok s_CommandOf.hE)) (fun t g => s_CommandOf_nat g t.1) (fun t => by kernel_rfl)
/-! loop.example_g00220_impl.isShort -/
def i_isShort.F {R : Type} (kk : Bool → Option R) (n_ : Int) : Option R :=
  (i_within n_ (0 : Int) (65535 : Int)).bind fun r =>
  kk r
theorem i_isShort.F_nat {R S : Type} (g : R → Option S) (kk : Bool → Option R) (n_ : Int) : i_isShort.F (fun y0 => (kk y0).bind g) n_ = (i_isShort.F kk n_).bind g := by
  simp only [i_isShort.F, grd_bind, cnd_bind, bnd_bind, non_bind]
def i_isShort (n_ : Int) : Option Bool := i_isShort.F (fun y0 => some y0) n_
theorem i_isShort_nat {S : Type} (g : Bool → Option S) (n_ : Int) : i_isShort.F (fun y0 => g y0) n_ = (i_isShort n_).bind g := i_isShort.F_nat g (fun y0 => some y0) n_
def i_isShort.out : Bool → CRes := fun a => ⟨encL SV.enc [.one (.bool)] (a, ()), [encL SC.enc [] ()]⟩
def i_isShort.ps : List PS := [.val [none]]
def i_isShort.sA : List SA := [.v (.one (.int .i64))]
def i_isShort.fi : FI := FIs i_isShort.sA (Bool) (fun t => i_isShort t.1) i_isShort.out i_isShort.ps
def i_isShort.E : Env := ⟨tt, lkF [(79, i_within.fi)], 5, 0, [], []⟩
theorem i_isShort.hok (hE : EOk Try.prog (i_isShort.E)) : HintOk Try.prog i_isShort.E (bodyOf Try.f57) (.a) := HintOk.n1 (Q := True) (by kernel_rfl) trivial
theorem i_isShort.hE : EOk Try.prog (i_isShort.E) := EOk.of ttOk (⟨i_within.fok, trivial⟩)
theorem i_isShort.fok : FOk Try.prog 57 i_isShort.fi :=
  fokS (E := i_isShort.E) (wy := ⟨[[none]], [[]], []⟩) (h := (fun gs => .a)) (G := fun t g => i_isShort.F (fun y0 => g y0) t.1) (by kernel_rfl) i_isShort.hE Try.func57 (by kernel_rfl) rfl (Nat.le_refl _) (fun t => HintOk.n1 (by kernel_rfl) (i_isShort.hok i_isShort.hE)) (fun t g => i_isShort_nat g t.1) (fun t => by kernel_rfl)
/-! loop.example_g00220_impl.isValue -/
def i_isValue.F {R : Type} (kk : Bool → Option R) (value : ByteArray) : Option R :=
  kk (decide ((ByteArray.size value : Int) ≤ (60 : Int)))
theorem i_isValue.F_nat {R S : Type} (g : R → Option S) (kk : Bool → Option R) (value : ByteArray) : i_isValue.F (fun y0 => (kk y0).bind g) value = (i_isValue.F kk value).bind g := by
  simp only [i_isValue.F, grd_bind, cnd_bind, bnd_bind, non_bind]
def i_isValue (value : ByteArray) : Option Bool := i_isValue.F (fun y0 => some y0) value
theorem i_isValue_nat {S : Type} (g : Bool → Option S) (value : ByteArray) : i_isValue.F (fun y0 => g y0) value = (i_isValue value).bind g := i_isValue.F_nat g (fun y0 => some y0) value
def i_isValue.out : Bool → CRes := fun a => ⟨encL SV.enc [.one (.bool)] (a, ()), [encL SC.enc [] ()]⟩
def i_isValue.ps : List PS := [.val [none]]
def i_isValue.sA : List SA := [.v (.one (.str))]
def i_isValue.fi : FI := FIs i_isValue.sA (Bool) (fun t => i_isValue t.1) i_isValue.out i_isValue.ps
def i_isValue.E : Env := ⟨tt, lkF [], 6, 0, [], []⟩
theorem i_isValue.hok (hE : EOk Try.prog (i_isValue.E)) : HintOk Try.prog i_isValue.E (bodyOf Try.f58) (.a) := HintOk.n1 (Q := True) (by kernel_rfl) trivial
theorem i_isValue.hE : EOk Try.prog (i_isValue.E) := EOk.of ttOk (trivial)
theorem i_isValue.fok : FOk Try.prog 58 i_isValue.fi :=
  fokS (E := i_isValue.E) (wy := ⟨[[none]], [[]], []⟩) (h := (fun gs => .a)) (G := fun t g => i_isValue.F (fun y0 => g y0) t.1) (by kernel_rfl) i_isValue.hE Try.func58 (by kernel_rfl) rfl (Nat.le_refl _) (fun t => HintOk.n1 (by kernel_rfl) (i_isValue.hok i_isValue.hE)) (fun t g => i_isValue_nat g t.1) (fun t => by kernel_rfl)
/-! loop.example_g00220_impl.isKey -/
def i_isKey.F {R : Type} (kk : Bool → Option R) (key : ByteArray) : Option R :=
  (i_within (ByteArray.size key : Int) (1 : Int) (24 : Int)).bind fun r =>
  kk r
theorem i_isKey.F_nat {R S : Type} (g : R → Option S) (kk : Bool → Option R) (key : ByteArray) : i_isKey.F (fun y0 => (kk y0).bind g) key = (i_isKey.F kk key).bind g := by
  simp only [i_isKey.F, grd_bind, cnd_bind, bnd_bind, non_bind]
def i_isKey (key : ByteArray) : Option Bool := i_isKey.F (fun y0 => some y0) key
theorem i_isKey_nat {S : Type} (g : Bool → Option S) (key : ByteArray) : i_isKey.F (fun y0 => g y0) key = (i_isKey key).bind g := i_isKey.F_nat g (fun y0 => some y0) key
def i_isKey.out : Bool → CRes := fun a => ⟨encL SV.enc [.one (.bool)] (a, ()), [encL SC.enc [] ()]⟩
def i_isKey.ps : List PS := [.val [none]]
def i_isKey.sA : List SA := [.v (.one (.str))]
def i_isKey.fi : FI := FIs i_isKey.sA (Bool) (fun t => i_isKey t.1) i_isKey.out i_isKey.ps
def i_isKey.E : Env := ⟨tt, lkF [(79, i_within.fi)], 6, 0, [], []⟩
theorem i_isKey.hok (hE : EOk Try.prog (i_isKey.E)) : HintOk Try.prog i_isKey.E (bodyOf Try.f59) (.a) := HintOk.n1 (Q := True) (by kernel_rfl) trivial
theorem i_isKey.hE : EOk Try.prog (i_isKey.E) := EOk.of ttOk (⟨i_within.fok, trivial⟩)
theorem i_isKey.fok : FOk Try.prog 59 i_isKey.fi :=
  fokS (E := i_isKey.E) (wy := ⟨[[none]], [[]], []⟩) (h := (fun gs => .a)) (G := fun t g => i_isKey.F (fun y0 => g y0) t.1) (by kernel_rfl) i_isKey.hE Try.func59 (by kernel_rfl) rfl (Nat.le_refl _) (fun t => HintOk.n1 (by kernel_rfl) (i_isKey.hok i_isKey.hE)) (fun t g => i_isKey_nat g t.1) (fun t => by kernel_rfl)
/-! loop.example_g00220_impl.CommandOK -/
def i_CommandOK.j1 {R : Type} (kkn : Int → Bool → Int → Int → Int → ByteArray → ByteArray → Option R) (i : Int) (c : Int) (c1 : Int) (c2 : Int) (c3 : ByteArray) (c4 : ByteArray) : Option R :=
  cond (i == (1 : Int)) (kkn i true c c1 c2 c3 c4) (kkn i (i == (2 : Int)) c c1 c2 c3 c4)
theorem i_CommandOK.j1_nat {R S : Type} (g : R → Option S) (kkn : Int → Bool → Int → Int → Int → ByteArray → ByteArray → Option R) (i : Int) (c : Int) (c1 : Int) (c2 : Int) (c3 : ByteArray) (c4 : ByteArray) : i_CommandOK.j1 (fun y0 y1 y2 y3 y4 y5 y6 => (kkn y0 y1 y2 y3 y4 y5 y6).bind g) i c c1 c2 c3 c4 = (i_CommandOK.j1 kkn i c c1 c2 c3 c4).bind g := by
  simp only [i_CommandOK.j1, grd_bind, cnd_bind, bnd_bind, non_bind]
def i_CommandOK.j2 {R : Type} (kkn : Bool → Int → Int → Int → ByteArray → ByteArray → Option R) (i : Int) (c : Int) (c1 : Int) (c2 : Int) (c3 : ByteArray) (c4 : ByteArray) : Option R :=
  cond (i == (4 : Int)) (kkn true c c1 c2 c3 c4) (kkn (i == (5 : Int)) c c1 c2 c3 c4)
theorem i_CommandOK.j2_nat {R S : Type} (g : R → Option S) (kkn : Bool → Int → Int → Int → ByteArray → ByteArray → Option R) (i : Int) (c : Int) (c1 : Int) (c2 : Int) (c3 : ByteArray) (c4 : ByteArray) : i_CommandOK.j2 (fun y0 y1 y2 y3 y4 y5 => (kkn y0 y1 y2 y3 y4 y5).bind g) i c c1 c2 c3 c4 = (i_CommandOK.j2 kkn i c c1 c2 c3 c4).bind g := by
  simp only [i_CommandOK.j2, grd_bind, cnd_bind, bnd_bind, non_bind]
def i_CommandOK.F {R : Type} (kk : Bool → Option R) (c_Kind : Int) (c_Session : Int) (c_Seq : Int) (c_Key : ByteArray) (c_Value : ByteArray) : Option R :=
  (i_isShort c_Session).bind fun r =>
  cond (!r) (kk false) (
    (i_isShort c_Seq).bind fun r1 =>
    cond (!r1) (kk false) (
      (i_isValue c_Value).bind fun r2 =>
      cond (!r2) (kk false) (
        i_CommandOK.j1 (fun i b c c1 c2 c3 c4 =>
          cond (b) (
            (i_isKey c3).bind fun r3 =>
            kk r3) (
            cond (i == (3 : Int)) (
              (i_isKey c3).bind fun r4 =>
              cond (r4) (kk (sEq c4 ByteArray.empty)) (kk false)) (
              i_CommandOK.j2 (fun b1 c5 c6 c7 c8 c9 =>
                cond (b1) (
                  cond (sEq c8 ByteArray.empty) (cond (sEq c9 ByteArray.empty) (kk (c7 == (0 : Int))) (kk false)) (kk false)) (kk false)) i c c1 c2 c3 c4))) c_Kind c_Kind c_Session c_Seq c_Key c_Value)))
theorem i_CommandOK.F_nat {R S : Type} (g : R → Option S) (kk : Bool → Option R) (c_Kind : Int) (c_Session : Int) (c_Seq : Int) (c_Key : ByteArray) (c_Value : ByteArray) : i_CommandOK.F (fun y0 => (kk y0).bind g) c_Kind c_Session c_Seq c_Key c_Value = (i_CommandOK.F kk c_Kind c_Session c_Seq c_Key c_Value).bind g := by
  simp only [i_CommandOK.F, grd_bind, cnd_bind, bnd_bind, non_bind, ← i_CommandOK.j1_nat, ← i_CommandOK.j2_nat]
def i_CommandOK (c_Kind : Int) (c_Session : Int) (c_Seq : Int) (c_Key : ByteArray) (c_Value : ByteArray) : Option Bool := i_CommandOK.F (fun y0 => some y0) c_Kind c_Session c_Seq c_Key c_Value
theorem i_CommandOK_nat {S : Type} (g : Bool → Option S) (c_Kind : Int) (c_Session : Int) (c_Seq : Int) (c_Key : ByteArray) (c_Value : ByteArray) : i_CommandOK.F (fun y0 => g y0) c_Kind c_Session c_Seq c_Key c_Value = (i_CommandOK c_Kind c_Session c_Seq c_Key c_Value).bind g := i_CommandOK.F_nat g (fun y0 => some y0) c_Kind c_Session c_Seq c_Key c_Value
def i_CommandOK.out : Bool → CRes := fun a => ⟨encL SV.enc [.one (.bool)] (a, ()), [encL SC.enc [] ()]⟩
def i_CommandOK.ps : List PS := [.val [none, none, none, none, none]]
def i_CommandOK.sA : List SA := [.v (.agg [.int .i64, .int .i64, .int .i64, .str, .str])]
def i_CommandOK.fi : FI := FIs i_CommandOK.sA (Bool) (fun t => i_CommandOK t.1.1 t.1.2.1 t.1.2.2.1 t.1.2.2.2.1 t.1.2.2.2.2.1) i_CommandOK.out i_CommandOK.ps
def i_CommandOK.E : Env := ⟨tt, lkF [(57, i_isShort.fi), (58, i_isValue.fi), (59, i_isKey.fi)], 53, 0, [], []⟩
def i_CommandOK.sh1 : SK := ⟨[.v (.one (.bptr 0 0)), .v (.one (.int .i64))], [.box [.int .i64, .int .i64, .int .i64, .str, .str]]⟩
def i_CommandOK.sh1n : SK := ⟨[.v (.one (.bptr 0 0)), .v (.one (.int .i64)), .v (.one (.bool))], [.box [.int .i64, .int .i64, .int .i64, .str, .str]]⟩
def i_CommandOK.ko1 : Ex → List CastAt × List Nat
  | .nrm => ([], [1, 20, 21])
  | .ret => ([], [])
  | .ext i => ([], [])
def i_CommandOK.G1 (R : Type) (t : i_CommandOK.sh1.T) (K : Ex → Kp → Option R) : Option R := i_CommandOK.j1 (fun y0 y1 y2 y3 y4 y5 y6 => K .nrm (SK.enc i_CommandOK.sh1n (((), y0, y1, ()), ((y2, y3, y4, y5, y6, ()), ())))) t.1.2.1 t.2.1.1 t.2.1.2.1 t.2.1.2.2.1 t.2.1.2.2.2.1 t.2.1.2.2.2.2.1
def i_CommandOK.S1 : Sum := ⟨([], [1, 20]), sumF i_CommandOK.sh1 (i_CommandOK.G1), i_CommandOK.ko1⟩
theorem i_CommandOK.ok1 (hE : EOk Try.prog (i_CommandOK.E)) : SumOk Try.prog i_CommandOK.E (cL (cB (cR (cL (cR (cR (bodyOf Try.f17))))))) (i_CommandOK.S1) := by
  have hh : HintOk Try.prog i_CommandOK.E (cL (cB (cR (cL (cR (cR (bodyOf Try.f17))))))) (.a) := HintOk.n1 (Q := True) (by kernel_rfl) trivial
  exact sumS (kin := ([], [1, 20])) (kout := i_CommandOK.ko1) (sh := i_CommandOK.sh1) (F := i_CommandOK.G1) (ops_ok (hE.gv _)) (by kernel_rfl) hh (fun R t K => by kernel_rfl)
def i_CommandOK.sh2 : SK := ⟨[.v (.one (.bptr 0 0)), .v (.one (.int .i64))], [.box [.int .i64, .int .i64, .int .i64, .str, .str]]⟩
def i_CommandOK.sh2n : SK := ⟨[.v (.one (.bptr 0 0)), .v (.one (.bool))], [.box [.int .i64, .int .i64, .int .i64, .str, .str]]⟩
def i_CommandOK.ko2 : Ex → List CastAt × List Nat
  | .nrm => ([], [1, 37])
  | .ret => ([], [])
  | .ext i => ([], [])
def i_CommandOK.G2 (R : Type) (t : i_CommandOK.sh2.T) (K : Ex → Kp → Option R) : Option R := i_CommandOK.j2 (fun y0 y1 y2 y3 y4 y5 => K .nrm (SK.enc i_CommandOK.sh2n (((), y0, ()), ((y1, y2, y3, y4, y5, ()), ())))) t.1.2.1 t.2.1.1 t.2.1.2.1 t.2.1.2.2.1 t.2.1.2.2.2.1 t.2.1.2.2.2.2.1
def i_CommandOK.S2 : Sum := ⟨([], [1, 20]), sumF i_CommandOK.sh2 (i_CommandOK.G2), i_CommandOK.ko2⟩
theorem i_CommandOK.ok2 (hE : EOk Try.prog (i_CommandOK.E)) : SumOk Try.prog i_CommandOK.E (cL (cR (cR (cR (cR (cB (cR (cL (cR (cR (bodyOf Try.f17))))))))))) (i_CommandOK.S2) := by
  have hh : HintOk Try.prog i_CommandOK.E (cL (cR (cR (cR (cR (cB (cR (cL (cR (cR (bodyOf Try.f17))))))))))) (.a) := HintOk.n1 (Q := True) (by kernel_rfl) trivial
  exact sumS (kin := ([], [1, 20])) (kout := i_CommandOK.ko2) (sh := i_CommandOK.sh2) (F := i_CommandOK.G2) (ops_ok (hE.gv _)) (by kernel_rfl) hh (fun R t K => by kernel_rfl)
theorem i_CommandOK.hok (hE : EOk Try.prog (i_CommandOK.E)) : HintOk Try.prog i_CommandOK.E (bodyOf Try.f17) (.n (.a) (.n (.a) (.n (.n (.a) (.b (.n (.s (i_CommandOK.S1)) (.n (.a) (.n (.a) (.n (.a) (.n (.s (i_CommandOK.S2)) (.a)))))))) (.a)))) := HintOk.n1 (Q := (True) ∧ ((True) ∧ (((True) ∧ ((SumOk Try.prog i_CommandOK.E (cL (cB (cR (cL (cR (cR (bodyOf Try.f17))))))) (i_CommandOK.S1)) ∧ ((True) ∧ ((True) ∧ ((True) ∧ ((SumOk Try.prog i_CommandOK.E (cL (cR (cR (cR (cR (cB (cR (cL (cR (cR (bodyOf Try.f17))))))))))) (i_CommandOK.S2)) ∧ (True))))))) ∧ (True)))) (by kernel_rfl) ⟨trivial, ⟨trivial, ⟨⟨trivial, ⟨(i_CommandOK.ok1 hE), ⟨trivial, ⟨trivial, ⟨trivial, ⟨(i_CommandOK.ok2 hE), trivial⟩⟩⟩⟩⟩⟩, trivial⟩⟩⟩
theorem i_CommandOK.hE : EOk Try.prog (i_CommandOK.E) := EOk.of ttOk (⟨i_isShort.fok, ⟨i_isValue.fok, ⟨i_isKey.fok, trivial⟩⟩⟩)
theorem i_CommandOK.fok : FOk Try.prog 17 i_CommandOK.fi :=
  fokS (E := i_CommandOK.E) (wy := ⟨[[none]], [[]], []⟩) (h := (fun gs => .n (.a) (.n (.a) (.n (.n (.a) (.b (.n (.s (i_CommandOK.S1)) (.n (.a) (.n (.a) (.n (.a) (.n (.s (i_CommandOK.S2)) (.a)))))))) (.a))))) (G := fun t g => i_CommandOK.F (fun y0 => g y0) t.1.1 t.1.2.1 t.1.2.2.1 t.1.2.2.2.1 t.1.2.2.2.2.1) (by kernel_rfl) i_CommandOK.hE Try.func17 (by kernel_rfl) rfl (Nat.le_refl _) (fun t => HintOk.n1 (by kernel_rfl) (i_CommandOK.hok i_CommandOK.hE)) (fun t g => i_CommandOK_nat g t.1.1 t.1.2.1 t.1.2.2.1 t.1.2.2.2.1 t.1.2.2.2.2.1) (fun t => by kernel_rfl)
/-! loop.example_g00220_impl.counted -/
def i_counted.F {R : Type} (kk : ByteArray → Option R) (t_ : ByteArray) : Option R :=
  (i_number (ByteArray.size t_ : Int) (1 : Int)).bind fun r =>
  grd (gCat r t_) <|
  kk (r ++ t_)
theorem i_counted.F_nat {R S : Type} (g : R → Option S) (kk : ByteArray → Option R) (t_ : ByteArray) : i_counted.F (fun y0 => (kk y0).bind g) t_ = (i_counted.F kk t_).bind g := by
  simp only [i_counted.F, grd_bind, cnd_bind, bnd_bind, non_bind]
def i_counted (t_ : ByteArray) : Option ByteArray := i_counted.F (fun y0 => some y0) t_
theorem i_counted_nat {S : Type} (g : ByteArray → Option S) (t_ : ByteArray) : i_counted.F (fun y0 => g y0) t_ = (i_counted t_).bind g := i_counted.F_nat g (fun y0 => some y0) t_
def i_counted.out : ByteArray → CRes := fun a => ⟨encL SV.enc [.one (.str)] (a, ()), [encL SC.enc [] ()]⟩
def i_counted.ps : List PS := [.val [none]]
def i_counted.sA : List SA := [.v (.one (.str))]
def i_counted.fi : FI := FIs i_counted.sA (ByteArray) (fun t => i_counted t.1) i_counted.out i_counted.ps
def i_counted.E : Env := ⟨tt, lkF [(95, i_number.fi)], 8, 0, [], []⟩
theorem i_counted.hok (hE : EOk Try.prog (i_counted.E)) : HintOk Try.prog i_counted.E (bodyOf Try.f96) (.a) := HintOk.n1 (Q := True) (by kernel_rfl) trivial
theorem i_counted.hE : EOk Try.prog (i_counted.E) := EOk.of ttOk (⟨i_number.fok, trivial⟩)
theorem i_counted.fok : FOk Try.prog 96 i_counted.fi :=
  fokS (E := i_counted.E) (wy := ⟨[[none]], [[]], []⟩) (h := (fun gs => .a)) (G := fun t g => i_counted.F (fun y0 => g y0) t.1) (by kernel_rfl) i_counted.hE Try.func96 (by kernel_rfl) rfl (Nat.le_refl _) (fun t => HintOk.n1 (by kernel_rfl) (i_counted.hok i_counted.hE)) (fun t g => i_counted_nat g t.1) (fun t => by kernel_rfl)
/-! _loop.example_g00220_impl.Command_.bytes -/
def i_Command_bytes.F {R : Type} (kk : ByteArray → Option R) (c_Kind : Int) (c_Session : Int) (c_Seq : Int) (c_Key : ByteArray) (c_Value : ByteArray) : Option R :=
  (i_number c_Kind (1 : Int)).bind fun r =>
  (i_number c_Session (2 : Int)).bind fun r1 =>
  grd (gCat r r1) <|
  (i_number c_Seq (2 : Int)).bind fun r2 =>
  grd (gCat (r ++ r1) r2) <|
  (i_counted c_Key).bind fun r3 =>
  grd (gCat ((r ++ r1) ++ r2) r3) <|
  (i_counted c_Value).bind fun r4 =>
  grd (gCat (((r ++ r1) ++ r2) ++ r3) r4) <|
  kk ((((r ++ r1) ++ r2) ++ r3) ++ r4)
theorem i_Command_bytes.F_nat {R S : Type} (g : R → Option S) (kk : ByteArray → Option R) (c_Kind : Int) (c_Session : Int) (c_Seq : Int) (c_Key : ByteArray) (c_Value : ByteArray) : i_Command_bytes.F (fun y0 => (kk y0).bind g) c_Kind c_Session c_Seq c_Key c_Value = (i_Command_bytes.F kk c_Kind c_Session c_Seq c_Key c_Value).bind g := by
  simp only [i_Command_bytes.F, grd_bind, cnd_bind, bnd_bind, non_bind]
def i_Command_bytes (c_Kind : Int) (c_Session : Int) (c_Seq : Int) (c_Key : ByteArray) (c_Value : ByteArray) : Option ByteArray := i_Command_bytes.F (fun y0 => some y0) c_Kind c_Session c_Seq c_Key c_Value
theorem i_Command_bytes_nat {S : Type} (g : ByteArray → Option S) (c_Kind : Int) (c_Session : Int) (c_Seq : Int) (c_Key : ByteArray) (c_Value : ByteArray) : i_Command_bytes.F (fun y0 => g y0) c_Kind c_Session c_Seq c_Key c_Value = (i_Command_bytes c_Kind c_Session c_Seq c_Key c_Value).bind g := i_Command_bytes.F_nat g (fun y0 => some y0) c_Kind c_Session c_Seq c_Key c_Value
def i_Command_bytes.out : ByteArray → CRes := fun a => ⟨encL SV.enc [.one (.str)] (a, ()), [encL SC.enc [] ()]⟩
def i_Command_bytes.ps : List PS := [.val [none, none, none, none, none]]
def i_Command_bytes.sA : List SA := [.v (.agg [.int .i64, .int .i64, .int .i64, .str, .str])]
def i_Command_bytes.fi : FI := FIs i_Command_bytes.sA (ByteArray) (fun t => i_Command_bytes t.1.1 t.1.2.1 t.1.2.2.1 t.1.2.2.2.1 t.1.2.2.2.2.1) i_Command_bytes.out i_Command_bytes.ps
def i_Command_bytes.E : Env := ⟨tt, lkF [(95, i_number.fi), (96, i_counted.fi)], 22, 0, [], []⟩
theorem i_Command_bytes.hok (hE : EOk Try.prog (i_Command_bytes.E)) : HintOk Try.prog i_Command_bytes.E (bodyOf Try.f47) (.a) := HintOk.n1 (Q := True) (by kernel_rfl) trivial
theorem i_Command_bytes.hE : EOk Try.prog (i_Command_bytes.E) := EOk.of ttOk (⟨i_number.fok, ⟨i_counted.fok, trivial⟩⟩)
theorem i_Command_bytes.fok : FOk Try.prog 47 i_Command_bytes.fi :=
  fokS (E := i_Command_bytes.E) (wy := ⟨[[none]], [[]], []⟩) (h := (fun gs => .a)) (G := fun t g => i_Command_bytes.F (fun y0 => g y0) t.1.1 t.1.2.1 t.1.2.2.1 t.1.2.2.2.1 t.1.2.2.2.2.1) (by kernel_rfl) i_Command_bytes.hE Try.func47 (by kernel_rfl) rfl (Nat.le_refl _) (fun t => HintOk.n1 (by kernel_rfl) (i_Command_bytes.hok i_Command_bytes.hE)) (fun t g => i_Command_bytes_nat g t.1.1 t.1.2.1 t.1.2.2.1 t.1.2.2.2.1 t.1.2.2.2.2.1) (fun t => by kernel_rfl)
/-! loop.example_g00220_impl.CommandBytes -/
def i_CommandBytes.F {R : Type} (kk : List Int → Int → Option R) (c_Kind : Int) (c_Session : Int) (c_Seq : Int) (c_Key : ByteArray) (c_Value : ByteArray) : Option R :=
  (i_CommandOK c_Kind c_Session c_Seq c_Key c_Value).bind fun r =>
  cond (!r) (kk [] (1 : Int)) (
    (i_Command_bytes c_Kind c_Session c_Seq c_Key c_Value).bind fun r1 =>
    kk (bytesL r1) (0 : Int))
theorem i_CommandBytes.F_nat {R S : Type} (g : R → Option S) (kk : List Int → Int → Option R) (c_Kind : Int) (c_Session : Int) (c_Seq : Int) (c_Key : ByteArray) (c_Value : ByteArray) : i_CommandBytes.F (fun y0 y1 => (kk y0 y1).bind g) c_Kind c_Session c_Seq c_Key c_Value = (i_CommandBytes.F kk c_Kind c_Session c_Seq c_Key c_Value).bind g := by
  simp only [i_CommandBytes.F, grd_bind, cnd_bind, bnd_bind, non_bind]
def i_CommandBytes (c_Kind : Int) (c_Session : Int) (c_Seq : Int) (c_Key : ByteArray) (c_Value : ByteArray) : Option (List Int × Int) := i_CommandBytes.F (fun y0 y1 => some (y0, y1)) c_Kind c_Session c_Seq c_Key c_Value
theorem i_CommandBytes_nat {S : Type} (g : (List Int × Int) → Option S) (c_Kind : Int) (c_Session : Int) (c_Seq : Int) (c_Key : ByteArray) (c_Value : ByteArray) : i_CommandBytes.F (fun y0 y1 => g (y0, y1)) c_Kind c_Session c_Seq c_Key c_Value = (i_CommandBytes c_Kind c_Session c_Seq c_Key c_Value).bind g := i_CommandBytes.F_nat g (fun y0 y1 => some (y0, y1)) c_Kind c_Session c_Seq c_Key c_Value
def i_CommandBytes.out : (List Int × Int) → CRes := fun a => ⟨encL SV.enc [.one (.own [] (.int .u8) true), .one (.int .i64)] (a.1, a.2, ()), [encL SC.enc [] ()]⟩
def i_CommandBytes.ps : List PS := [.val [none, none, none, none, none]]
def i_CommandBytes.sA : List SA := [.v (.agg [.int .i64, .int .i64, .int .i64, .str, .str])]
def i_CommandBytes.fi : FI := FIs i_CommandBytes.sA (List Int × Int) (fun t => i_CommandBytes t.1.1 t.1.2.1 t.1.2.2.1 t.1.2.2.2.1 t.1.2.2.2.2.1) i_CommandBytes.out i_CommandBytes.ps
def i_CommandBytes.E : Env := ⟨tt, lkF [(17, i_CommandOK.fi), (47, i_Command_bytes.fi)], 10, 0, [], []⟩
theorem i_CommandBytes.hok (hE : EOk Try.prog (i_CommandBytes.E)) : HintOk Try.prog i_CommandBytes.E (bodyOf Try.f10) (.a) := HintOk.n1 (Q := True) (by kernel_rfl) trivial
theorem i_CommandBytes.hE : EOk Try.prog (i_CommandBytes.E) := EOk.of ttOk (⟨i_CommandOK.fok, ⟨i_Command_bytes.fok, trivial⟩⟩)
theorem i_CommandBytes.fok : FOk Try.prog 10 i_CommandBytes.fi :=
  fokS (E := i_CommandBytes.E) (wy := ⟨[[some ((.int .u8), true)], [none]], [[]], []⟩) (h := (fun gs => .a)) (G := fun t g => i_CommandBytes.F (fun y0 y1 => g (y0, y1)) t.1.1 t.1.2.1 t.1.2.2.1 t.1.2.2.2.1 t.1.2.2.2.2.1) (by kernel_rfl) i_CommandBytes.hE Try.func10 (by kernel_rfl) rfl (Nat.le_refl _) (fun t => HintOk.n1 (by kernel_rfl) (i_CommandBytes.hok i_CommandBytes.hE)) (fun t g => i_CommandBytes_nat g t.1.1 t.1.2.1 t.1.2.2.1 t.1.2.2.2.1 t.1.2.2.2.2.1) (fun t => by kernel_rfl)
/-! loop.example_g00220_spec.l02Key -/
def s_l02Key.F {R : Type} (kk : Bool → Option R) (k_ : ByteArray) : Option R :=
  cond (decide ((ByteArray.size k_ : Int) ≥ (1 : Int))) (kk (decide ((ByteArray.size k_ : Int) ≤ (24 : Int)))) (kk false)
theorem s_l02Key.F_nat {R S : Type} (g : R → Option S) (kk : Bool → Option R) (k_ : ByteArray) : s_l02Key.F (fun y0 => (kk y0).bind g) k_ = (s_l02Key.F kk k_).bind g := by
  simp only [s_l02Key.F, grd_bind, cnd_bind, bnd_bind, non_bind]
def s_l02Key (k_ : ByteArray) : Option Bool := s_l02Key.F (fun y0 => some y0) k_
theorem s_l02Key_nat {S : Type} (g : Bool → Option S) (k_ : ByteArray) : s_l02Key.F (fun y0 => g y0) k_ = (s_l02Key k_).bind g := s_l02Key.F_nat g (fun y0 => some y0) k_
def s_l02Key.out : Bool → CRes := fun a => ⟨encL SV.enc [.one (.bool)] (a, ()), [encL SC.enc [] ()]⟩
def s_l02Key.ps : List PS := [.val [none]]
def s_l02Key.sA : List SA := [.v (.one (.str))]
def s_l02Key.fi : FI := FIs s_l02Key.sA (Bool) (fun t => s_l02Key t.1) s_l02Key.out s_l02Key.ps
def s_l02Key.E : Env := ⟨tt, lkF [], 11, 0, [], []⟩
theorem s_l02Key.hok (hE : EOk Try.prog (s_l02Key.E)) : HintOk Try.prog s_l02Key.E (bodyOf Try.f97) (.a) := HintOk.n1 (Q := True) (by kernel_rfl) trivial
theorem s_l02Key.hE : EOk Try.prog (s_l02Key.E) := EOk.of ttOk (trivial)
theorem s_l02Key.fok : FOk Try.prog 97 s_l02Key.fi :=
  fokS (E := s_l02Key.E) (wy := ⟨[[none]], [[]], []⟩) (h := (fun gs => .a)) (G := fun t g => s_l02Key.F (fun y0 => g y0) t.1) (by kernel_rfl) s_l02Key.hE Try.func97 (by kernel_rfl) rfl (Nat.le_refl _) (fun t => HintOk.n1 (by kernel_rfl) (s_l02Key.hok s_l02Key.hE)) (fun t g => s_l02Key_nat g t.1) (fun t => by kernel_rfl)
/-! loop.example_g00220_spec.CommandOK -/
def s_CommandOK.j1 {R : Type} (kkn : Int → Bool → Int → Int → Int → ByteArray → ByteArray → Option R) (i : Int) (c : Int) (c1 : Int) (c2 : Int) (c3 : ByteArray) (c4 : ByteArray) : Option R :=
  cond (i == (1 : Int)) (kkn i true c c1 c2 c3 c4) (kkn i (i == (2 : Int)) c c1 c2 c3 c4)
theorem s_CommandOK.j1_nat {R S : Type} (g : R → Option S) (kkn : Int → Bool → Int → Int → Int → ByteArray → ByteArray → Option R) (i : Int) (c : Int) (c1 : Int) (c2 : Int) (c3 : ByteArray) (c4 : ByteArray) : s_CommandOK.j1 (fun y0 y1 y2 y3 y4 y5 y6 => (kkn y0 y1 y2 y3 y4 y5 y6).bind g) i c c1 c2 c3 c4 = (s_CommandOK.j1 kkn i c c1 c2 c3 c4).bind g := by
  simp only [s_CommandOK.j1, grd_bind, cnd_bind, bnd_bind, non_bind]
def s_CommandOK.j2 {R : Type} (kkn : Bool → Int → Int → Int → ByteArray → ByteArray → Option R) (i : Int) (c : Int) (c1 : Int) (c2 : Int) (c3 : ByteArray) (c4 : ByteArray) : Option R :=
  cond (i == (4 : Int)) (kkn true c c1 c2 c3 c4) (kkn (i == (5 : Int)) c c1 c2 c3 c4)
theorem s_CommandOK.j2_nat {R S : Type} (g : R → Option S) (kkn : Bool → Int → Int → Int → ByteArray → ByteArray → Option R) (i : Int) (c : Int) (c1 : Int) (c2 : Int) (c3 : ByteArray) (c4 : ByteArray) : s_CommandOK.j2 (fun y0 y1 y2 y3 y4 y5 => (kkn y0 y1 y2 y3 y4 y5).bind g) i c c1 c2 c3 c4 = (s_CommandOK.j2 kkn i c c1 c2 c3 c4).bind g := by
  simp only [s_CommandOK.j2, grd_bind, cnd_bind, bnd_bind, non_bind]
def s_CommandOK.F {R : Type} (kk : Bool → Option R) (c_Kind : Int) (c_Session : Int) (c_Seq : Int) (c_Key : ByteArray) (c_Value : ByteArray) : Option R :=
  (s_l01In c_Session (0 : Int) (65535 : Int)).bind fun r =>
  cond (!r) (kk false) (
    (s_l01In c_Seq (0 : Int) (65535 : Int)).bind fun r1 =>
    cond (!r1) (kk false) (
      cond (decide ((ByteArray.size c_Value : Int) > (60 : Int))) (kk false) (
        s_CommandOK.j1 (fun i b c c1 c2 c3 c4 =>
          cond (b) (
            (s_l02Key c3).bind fun r2 =>
            kk r2) (
            cond (i == (3 : Int)) (
              (s_l02Key c3).bind fun r3 =>
              cond (r3) (kk (sEq c4 ByteArray.empty)) (kk false)) (
              s_CommandOK.j2 (fun b1 c5 c6 c7 c8 c9 =>
                cond (b1) (
                  cond (sEq c8 ByteArray.empty) (cond (sEq c9 ByteArray.empty) (kk (c7 == (0 : Int))) (kk false)) (kk false)) (kk false)) i c c1 c2 c3 c4))) c_Kind c_Kind c_Session c_Seq c_Key c_Value)))
theorem s_CommandOK.F_nat {R S : Type} (g : R → Option S) (kk : Bool → Option R) (c_Kind : Int) (c_Session : Int) (c_Seq : Int) (c_Key : ByteArray) (c_Value : ByteArray) : s_CommandOK.F (fun y0 => (kk y0).bind g) c_Kind c_Session c_Seq c_Key c_Value = (s_CommandOK.F kk c_Kind c_Session c_Seq c_Key c_Value).bind g := by
  simp only [s_CommandOK.F, grd_bind, cnd_bind, bnd_bind, non_bind, ← s_CommandOK.j1_nat, ← s_CommandOK.j2_nat]
def s_CommandOK (c_Kind : Int) (c_Session : Int) (c_Seq : Int) (c_Key : ByteArray) (c_Value : ByteArray) : Option Bool := s_CommandOK.F (fun y0 => some y0) c_Kind c_Session c_Seq c_Key c_Value
theorem s_CommandOK_nat {S : Type} (g : Bool → Option S) (c_Kind : Int) (c_Session : Int) (c_Seq : Int) (c_Key : ByteArray) (c_Value : ByteArray) : s_CommandOK.F (fun y0 => g y0) c_Kind c_Session c_Seq c_Key c_Value = (s_CommandOK c_Kind c_Session c_Seq c_Key c_Value).bind g := s_CommandOK.F_nat g (fun y0 => some y0) c_Kind c_Session c_Seq c_Key c_Value
def s_CommandOK.out : Bool → CRes := fun a => ⟨encL SV.enc [.one (.bool)] (a, ()), [encL SC.enc [] ()]⟩
def s_CommandOK.ps : List PS := [.val [none, none, none, none, none]]
def s_CommandOK.sA : List SA := [.v (.agg [.int .i64, .int .i64, .int .i64, .str, .str])]
def s_CommandOK.fi : FI := FIs s_CommandOK.sA (Bool) (fun t => s_CommandOK t.1.1 t.1.2.1 t.1.2.2.1 t.1.2.2.2.1 t.1.2.2.2.2.1) s_CommandOK.out s_CommandOK.ps
def s_CommandOK.E : Env := ⟨tt, lkF [(69, s_l01In.fi), (97, s_l02Key.fi)], 53, 0, [], []⟩
def s_CommandOK.sh1 : SK := ⟨[.v (.one (.bptr 0 0)), .v (.one (.int .i64))], [.box [.int .i64, .int .i64, .int .i64, .str, .str]]⟩
def s_CommandOK.sh1n : SK := ⟨[.v (.one (.bptr 0 0)), .v (.one (.int .i64)), .v (.one (.bool))], [.box [.int .i64, .int .i64, .int .i64, .str, .str]]⟩
def s_CommandOK.ko1 : Ex → List CastAt × List Nat
  | .nrm => ([], [1, 20, 21])
  | .ret => ([], [])
  | .ext i => ([], [])
def s_CommandOK.G1 (R : Type) (t : s_CommandOK.sh1.T) (K : Ex → Kp → Option R) : Option R := s_CommandOK.j1 (fun y0 y1 y2 y3 y4 y5 y6 => K .nrm (SK.enc s_CommandOK.sh1n (((), y0, y1, ()), ((y2, y3, y4, y5, y6, ()), ())))) t.1.2.1 t.2.1.1 t.2.1.2.1 t.2.1.2.2.1 t.2.1.2.2.2.1 t.2.1.2.2.2.2.1
def s_CommandOK.S1 : Sum := ⟨([], [1, 20]), sumF s_CommandOK.sh1 (s_CommandOK.G1), s_CommandOK.ko1⟩
theorem s_CommandOK.ok1 (hE : EOk Try.prog (s_CommandOK.E)) : SumOk Try.prog s_CommandOK.E (cL (cB (cR (cL (cR (cR (bodyOf Try.f48))))))) (s_CommandOK.S1) := by
  have hh : HintOk Try.prog s_CommandOK.E (cL (cB (cR (cL (cR (cR (bodyOf Try.f48))))))) (.a) := HintOk.n1 (Q := True) (by kernel_rfl) trivial
  exact sumS (kin := ([], [1, 20])) (kout := s_CommandOK.ko1) (sh := s_CommandOK.sh1) (F := s_CommandOK.G1) (ops_ok (hE.gv _)) (by kernel_rfl) hh (fun R t K => by kernel_rfl)
def s_CommandOK.sh2 : SK := ⟨[.v (.one (.bptr 0 0)), .v (.one (.int .i64))], [.box [.int .i64, .int .i64, .int .i64, .str, .str]]⟩
def s_CommandOK.sh2n : SK := ⟨[.v (.one (.bptr 0 0)), .v (.one (.bool))], [.box [.int .i64, .int .i64, .int .i64, .str, .str]]⟩
def s_CommandOK.ko2 : Ex → List CastAt × List Nat
  | .nrm => ([], [1, 37])
  | .ret => ([], [])
  | .ext i => ([], [])
def s_CommandOK.G2 (R : Type) (t : s_CommandOK.sh2.T) (K : Ex → Kp → Option R) : Option R := s_CommandOK.j2 (fun y0 y1 y2 y3 y4 y5 => K .nrm (SK.enc s_CommandOK.sh2n (((), y0, ()), ((y1, y2, y3, y4, y5, ()), ())))) t.1.2.1 t.2.1.1 t.2.1.2.1 t.2.1.2.2.1 t.2.1.2.2.2.1 t.2.1.2.2.2.2.1
def s_CommandOK.S2 : Sum := ⟨([], [1, 20]), sumF s_CommandOK.sh2 (s_CommandOK.G2), s_CommandOK.ko2⟩
theorem s_CommandOK.ok2 (hE : EOk Try.prog (s_CommandOK.E)) : SumOk Try.prog s_CommandOK.E (cL (cR (cR (cR (cR (cB (cR (cL (cR (cR (bodyOf Try.f48))))))))))) (s_CommandOK.S2) := by
  have hh : HintOk Try.prog s_CommandOK.E (cL (cR (cR (cR (cR (cB (cR (cL (cR (cR (bodyOf Try.f48))))))))))) (.a) := HintOk.n1 (Q := True) (by kernel_rfl) trivial
  exact sumS (kin := ([], [1, 20])) (kout := s_CommandOK.ko2) (sh := s_CommandOK.sh2) (F := s_CommandOK.G2) (ops_ok (hE.gv _)) (by kernel_rfl) hh (fun R t K => by kernel_rfl)
theorem s_CommandOK.hok (hE : EOk Try.prog (s_CommandOK.E)) : HintOk Try.prog s_CommandOK.E (bodyOf Try.f48) (.n (.a) (.n (.a) (.n (.n (.a) (.b (.n (.s (s_CommandOK.S1)) (.n (.a) (.n (.a) (.n (.a) (.n (.s (s_CommandOK.S2)) (.a)))))))) (.a)))) := HintOk.n1 (Q := (True) ∧ ((True) ∧ (((True) ∧ ((SumOk Try.prog s_CommandOK.E (cL (cB (cR (cL (cR (cR (bodyOf Try.f48))))))) (s_CommandOK.S1)) ∧ ((True) ∧ ((True) ∧ ((True) ∧ ((SumOk Try.prog s_CommandOK.E (cL (cR (cR (cR (cR (cB (cR (cL (cR (cR (bodyOf Try.f48))))))))))) (s_CommandOK.S2)) ∧ (True))))))) ∧ (True)))) (by kernel_rfl) ⟨trivial, ⟨trivial, ⟨⟨trivial, ⟨(s_CommandOK.ok1 hE), ⟨trivial, ⟨trivial, ⟨trivial, ⟨(s_CommandOK.ok2 hE), trivial⟩⟩⟩⟩⟩⟩, trivial⟩⟩⟩
theorem s_CommandOK.hE : EOk Try.prog (s_CommandOK.E) := EOk.of ttOk (⟨s_l01In.fok, ⟨s_l02Key.fok, trivial⟩⟩)
theorem s_CommandOK.fok : FOk Try.prog 48 s_CommandOK.fi :=
  fokS (E := s_CommandOK.E) (wy := ⟨[[none]], [[]], []⟩) (h := (fun gs => .n (.a) (.n (.a) (.n (.n (.a) (.b (.n (.s (s_CommandOK.S1)) (.n (.a) (.n (.a) (.n (.a) (.n (.s (s_CommandOK.S2)) (.a)))))))) (.a))))) (G := fun t g => s_CommandOK.F (fun y0 => g y0) t.1.1 t.1.2.1 t.1.2.2.1 t.1.2.2.2.1 t.1.2.2.2.2.1) (by kernel_rfl) s_CommandOK.hE Try.func48 (by kernel_rfl) rfl (Nat.le_refl _) (fun t => HintOk.n1 (by kernel_rfl) (s_CommandOK.hok s_CommandOK.hE)) (fun t g => s_CommandOK_nat g t.1.1 t.1.2.1 t.1.2.2.1 t.1.2.2.2.1 t.1.2.2.2.2.1) (fun t => by kernel_rfl)
/-! loop.example_g00220_spec.l02Two -/
def s_l02Two.F {R : Type} (kk : List Int → Option R) (n_ : Int) : Option R :=
  grd (gNz (256 : Int)) <|
  kk [IntKind.wrap .u8 (IntKind.wrap .i64 (Int.tdiv n_ (256 : Int))), IntKind.wrap .u8 n_]
theorem s_l02Two.F_nat {R S : Type} (g : R → Option S) (kk : List Int → Option R) (n_ : Int) : s_l02Two.F (fun y0 => (kk y0).bind g) n_ = (s_l02Two.F kk n_).bind g := by
  simp only [s_l02Two.F, grd_bind, cnd_bind, bnd_bind, non_bind]
def s_l02Two (n_ : Int) : Option (List Int) := s_l02Two.F (fun y0 => some y0) n_
theorem s_l02Two_nat {S : Type} (g : (List Int) → Option S) (n_ : Int) : s_l02Two.F (fun y0 => g y0) n_ = (s_l02Two n_).bind g := s_l02Two.F_nat g (fun y0 => some y0) n_
def s_l02Two.out : (List Int) → CRes := fun a => ⟨encL SV.enc [.one (.own [] (.int .u8) true)] (a, ()), [encL SC.enc [] ()]⟩
def s_l02Two.ps : List PS := [.val [none]]
def s_l02Two.sA : List SA := [.v (.one (.int .i64))]
def s_l02Two.fi : FI := FIs s_l02Two.sA (List Int) (fun t => s_l02Two t.1) s_l02Two.out s_l02Two.ps
def s_l02Two.E : Env := ⟨tt, lkF [], 9, 0, [], []⟩
theorem s_l02Two.hok (hE : EOk Try.prog (s_l02Two.E)) : HintOk Try.prog s_l02Two.E (bodyOf Try.f98) (.a) := HintOk.n1 (Q := True) (by kernel_rfl) trivial
theorem s_l02Two.hE : EOk Try.prog (s_l02Two.E) := EOk.of ttOk (trivial)
theorem s_l02Two.fok : FOk Try.prog 98 s_l02Two.fi :=
  fokS (E := s_l02Two.E) (wy := ⟨[[some ((.int .u8), true)]], [[]], []⟩) (h := (fun gs => .a)) (G := fun t g => s_l02Two.F (fun y0 => g y0) t.1) (by kernel_rfl) s_l02Two.hE Try.func98 (by kernel_rfl) rfl (Nat.le_refl _) (fun t => HintOk.n1 (by kernel_rfl) (s_l02Two.hok s_l02Two.hE)) (fun t g => s_l02Two_nat g t.1) (fun t => by kernel_rfl)
/-! loop.example_g00220_spec.l02Bytes -/
def s_l02Bytes.F {R : Type} (kk : List Int → Option R) (c_Kind : Int) (c_Session : Int) (c_Seq : Int) (c_Key : ByteArray) (c_Value : ByteArray) : Option R :=
  (s_l02Two c_Session).bind fun r =>
  grd (gRm (((List.length [IntKind.wrap .u8 c_Kind]) + (List.length r)) * 1)) <|
  (s_l02Two c_Seq).bind fun r1 =>
  grd (gRm (((List.length ([IntKind.wrap .u8 c_Kind] ++ r)) + (List.length r1)) * 1)) <|
  grd (gRm (((List.length (([IntKind.wrap .u8 c_Kind] ++ r) ++ r1)) + (List.length [IntKind.wrap .u8 (ByteArray.size c_Key : Int)])) * 1)) <|
  grd (gRm (((List.length ((([IntKind.wrap .u8 c_Kind] ++ r) ++ r1) ++ [IntKind.wrap .u8 (ByteArray.size c_Key : Int)])) + (List.length (bytesL c_Key))) * 1)) <|
  grd (gRm (((List.length (((([IntKind.wrap .u8 c_Kind] ++ r) ++ r1) ++ [IntKind.wrap .u8 (ByteArray.size c_Key : Int)]) ++ (bytesL c_Key))) + (List.length [IntKind.wrap .u8 (ByteArray.size c_Value : Int)])) * 1)) <|
  grd (gRm (((List.length ((((([IntKind.wrap .u8 c_Kind] ++ r) ++ r1) ++ [IntKind.wrap .u8 (ByteArray.size c_Key : Int)]) ++ (bytesL c_Key)) ++ [IntKind.wrap .u8 (ByteArray.size c_Value : Int)])) + (List.length (bytesL c_Value))) * 1)) <|
  kk (((((([IntKind.wrap .u8 c_Kind] ++ r) ++ r1) ++ [IntKind.wrap .u8 (ByteArray.size c_Key : Int)]) ++ (bytesL c_Key)) ++ [IntKind.wrap .u8 (ByteArray.size c_Value : Int)]) ++ (bytesL c_Value))
theorem s_l02Bytes.F_nat {R S : Type} (g : R → Option S) (kk : List Int → Option R) (c_Kind : Int) (c_Session : Int) (c_Seq : Int) (c_Key : ByteArray) (c_Value : ByteArray) : s_l02Bytes.F (fun y0 => (kk y0).bind g) c_Kind c_Session c_Seq c_Key c_Value = (s_l02Bytes.F kk c_Kind c_Session c_Seq c_Key c_Value).bind g := by
  simp only [s_l02Bytes.F, grd_bind, cnd_bind, bnd_bind, non_bind]
def s_l02Bytes (c_Kind : Int) (c_Session : Int) (c_Seq : Int) (c_Key : ByteArray) (c_Value : ByteArray) : Option (List Int) := s_l02Bytes.F (fun y0 => some y0) c_Kind c_Session c_Seq c_Key c_Value
theorem s_l02Bytes_nat {S : Type} (g : (List Int) → Option S) (c_Kind : Int) (c_Session : Int) (c_Seq : Int) (c_Key : ByteArray) (c_Value : ByteArray) : s_l02Bytes.F (fun y0 => g y0) c_Kind c_Session c_Seq c_Key c_Value = (s_l02Bytes c_Kind c_Session c_Seq c_Key c_Value).bind g := s_l02Bytes.F_nat g (fun y0 => some y0) c_Kind c_Session c_Seq c_Key c_Value
def s_l02Bytes.out : (List Int) → CRes := fun a => ⟨encL SV.enc [.one (.own [] (.int .u8) true)] (a, ()), [encL SC.enc [] ()]⟩
def s_l02Bytes.ps : List PS := [.val [none, none, none, none, none]]
def s_l02Bytes.sA : List SA := [.v (.agg [.int .i64, .int .i64, .int .i64, .str, .str])]
def s_l02Bytes.fi : FI := FIs s_l02Bytes.sA (List Int) (fun t => s_l02Bytes t.1.1 t.1.2.1 t.1.2.2.1 t.1.2.2.2.1 t.1.2.2.2.2.1) s_l02Bytes.out s_l02Bytes.ps
def s_l02Bytes.E : Env := ⟨tt, lkF [(98, s_l02Two.fi)], 37, 0, [], []⟩
theorem s_l02Bytes.hok (hE : EOk Try.prog (s_l02Bytes.E)) : HintOk Try.prog s_l02Bytes.E (bodyOf Try.f49) (.a) := HintOk.n1 (Q := True) (by kernel_rfl) trivial
theorem s_l02Bytes.hE : EOk Try.prog (s_l02Bytes.E) := EOk.of ttOk (⟨s_l02Two.fok, trivial⟩)
theorem s_l02Bytes.fok : FOk Try.prog 49 s_l02Bytes.fi :=
  fokS (E := s_l02Bytes.E) (wy := ⟨[[some ((.int .u8), true)]], [[]], []⟩) (h := (fun gs => .a)) (G := fun t g => s_l02Bytes.F (fun y0 => g y0) t.1.1 t.1.2.1 t.1.2.2.1 t.1.2.2.2.1 t.1.2.2.2.2.1) (by kernel_rfl) s_l02Bytes.hE Try.func49 (by kernel_rfl) rfl (Nat.le_refl _) (fun t => HintOk.n1 (by kernel_rfl) (s_l02Bytes.hok s_l02Bytes.hE)) (fun t g => s_l02Bytes_nat g t.1.1 t.1.2.1 t.1.2.2.1 t.1.2.2.2.1 t.1.2.2.2.2.1) (fun t => by kernel_rfl)
/-! loop.example_g00220_spec.CommandBytes -/
def s_CommandBytes.F {R : Type} (kk : List Int → Int → Option R) (c_Kind : Int) (c_Session : Int) (c_Seq : Int) (c_Key : ByteArray) (c_Value : ByteArray) : Option R :=
  (s_CommandOK c_Kind c_Session c_Seq c_Key c_Value).bind fun r =>
  cond (!r) (kk ([] : List Int) (1 : Int)) (
    (s_l02Bytes c_Kind c_Session c_Seq c_Key c_Value).bind fun r1 =>
    kk r1 (0 : Int))
theorem s_CommandBytes.F_nat {R S : Type} (g : R → Option S) (kk : List Int → Int → Option R) (c_Kind : Int) (c_Session : Int) (c_Seq : Int) (c_Key : ByteArray) (c_Value : ByteArray) : s_CommandBytes.F (fun y0 y1 => (kk y0 y1).bind g) c_Kind c_Session c_Seq c_Key c_Value = (s_CommandBytes.F kk c_Kind c_Session c_Seq c_Key c_Value).bind g := by
  simp only [s_CommandBytes.F, grd_bind, cnd_bind, bnd_bind, non_bind]
def s_CommandBytes (c_Kind : Int) (c_Session : Int) (c_Seq : Int) (c_Key : ByteArray) (c_Value : ByteArray) : Option (List Int × Int) := s_CommandBytes.F (fun y0 y1 => some (y0, y1)) c_Kind c_Session c_Seq c_Key c_Value
theorem s_CommandBytes_nat {S : Type} (g : (List Int × Int) → Option S) (c_Kind : Int) (c_Session : Int) (c_Seq : Int) (c_Key : ByteArray) (c_Value : ByteArray) : s_CommandBytes.F (fun y0 y1 => g (y0, y1)) c_Kind c_Session c_Seq c_Key c_Value = (s_CommandBytes c_Kind c_Session c_Seq c_Key c_Value).bind g := s_CommandBytes.F_nat g (fun y0 y1 => some (y0, y1)) c_Kind c_Session c_Seq c_Key c_Value
def s_CommandBytes.out : (List Int × Int) → CRes := fun a => ⟨encL SV.enc [.one (.own [] (.int .u8) true), .one (.int .i64)] (a.1, a.2, ()), [encL SC.enc [] ()]⟩
def s_CommandBytes.ps : List PS := [.val [none, none, none, none, none]]
def s_CommandBytes.sA : List SA := [.v (.agg [.int .i64, .int .i64, .int .i64, .str, .str])]
def s_CommandBytes.fi : FI := FIs s_CommandBytes.sA (List Int × Int) (fun t => s_CommandBytes t.1.1 t.1.2.1 t.1.2.2.1 t.1.2.2.2.1 t.1.2.2.2.2.1) s_CommandBytes.out s_CommandBytes.ps
def s_CommandBytes.E : Env := ⟨tt, lkF [(48, s_CommandOK.fi), (49, s_l02Bytes.fi)], 10, 0, [], []⟩
theorem s_CommandBytes.hok (hE : EOk Try.prog (s_CommandBytes.E)) : HintOk Try.prog s_CommandBytes.E (bodyOf Try.f11) (.a) := HintOk.n1 (Q := True) (by kernel_rfl) trivial
theorem s_CommandBytes.hE : EOk Try.prog (s_CommandBytes.E) := EOk.of ttOk (⟨s_CommandOK.fok, ⟨s_l02Bytes.fok, trivial⟩⟩)
theorem s_CommandBytes.fok : FOk Try.prog 11 s_CommandBytes.fi :=
  fokS (E := s_CommandBytes.E) (wy := ⟨[[some ((.int .u8), true)], [none]], [[]], []⟩) (h := (fun gs => .a)) (G := fun t g => s_CommandBytes.F (fun y0 y1 => g (y0, y1)) t.1.1 t.1.2.1 t.1.2.2.1 t.1.2.2.2.1 t.1.2.2.2.2.1) (by kernel_rfl) s_CommandBytes.hE Try.func11 (by kernel_rfl) rfl (Nat.le_refl _) (fun t => HintOk.n1 (by kernel_rfl) (s_CommandBytes.hok s_CommandBytes.hE)) (fun t g => s_CommandBytes_nat g t.1.1 t.1.2.1 t.1.2.2.1 t.1.2.2.2.1 t.1.2.2.2.2.1) (fun t => by kernel_rfl)
/-! loop.example_g00220_impl.numberOf -/
def i_numberOf.l1 {R : Type} (kke0 : Int → Option R) : Nat → ByteArray → Int → Int → Int → Option R
  | 0, _, _, _, _ => none
  | n + 1, s, n_, i, i1 =>
    cond (decide (i1 < i)) (
      grd (gSh (8 : Int)) <|
      grd (gIx i1 (ByteArray.size s)) <|
      i_numberOf.l1 kke0 n s (IntKind.wrap .i64 ((iShl .i64 n_ (8 : Int)) + (IntKind.wrap .i64 (byteAt s i1)))) i (IntKind.wrap .i64 (i1 + (1 : Int)))) (kke0 n_)
theorem i_numberOf.l1_nat {R S : Type} (g : R → Option S) (kke0 : Int → Option R) : ∀ (n : Nat) (s : ByteArray) (n_ : Int) (i : Int) (i1 : Int), i_numberOf.l1 (fun y0 => (kke0 y0).bind g) n s n_ i i1 = (i_numberOf.l1 kke0 n s n_ i i1).bind g := by
  intro n
  induction n with
  | zero => intros; rfl
  | succ n ih => intros; simp only [i_numberOf.l1, grd_bind, cnd_bind, bnd_bind, non_bind, ih]
def i_numberOf.F {R : Type} (kk : Int → Option R) (s : ByteArray) : Option R :=
  i_numberOf.l1 (fun n_ => kk n_) fuel s (0 : Int) (ByteArray.size s : Int) (0 : Int)
theorem i_numberOf.F_nat {R S : Type} (g : R → Option S) (kk : Int → Option R) (s : ByteArray) : i_numberOf.F (fun y0 => (kk y0).bind g) s = (i_numberOf.F kk s).bind g := by
  simp only [i_numberOf.F, grd_bind, cnd_bind, bnd_bind, non_bind, ← i_numberOf.l1_nat]
def i_numberOf (s : ByteArray) : Option Int := i_numberOf.F (fun y0 => some y0) s
theorem i_numberOf_nat {S : Type} (g : Int → Option S) (s : ByteArray) : i_numberOf.F (fun y0 => g y0) s = (i_numberOf s).bind g := i_numberOf.F_nat g (fun y0 => some y0) s
def i_numberOf.out : Int → CRes := fun a => ⟨encL SV.enc [.one (.int .i64)] (a, ()), [encL SC.enc [] ()]⟩
def i_numberOf.ps : List PS := [.val [none]]
def i_numberOf.sA : List SA := [.v (.one (.str))]
def i_numberOf.fi : FI := FIs i_numberOf.sA (Int) (fun t => i_numberOf t.1) i_numberOf.out i_numberOf.ps
def i_numberOf.E : Env := ⟨tt, lkF [], 19, 0, [], []⟩
def i_numberOf.sh1 : SK := ⟨[.v (.one (.str)), .v (.one (.int .i64)), .v (.one (.int .i64)), .v (.one (.int .i64))], []⟩
def i_numberOf.sh1e0 : SK := ⟨[.v (.one (.int .i64))], []⟩
def i_numberOf.ko1 : Ex → List CastAt × List Nat
  | .nrm => ([], [])
  | .ret => ([], [])
  | .ext i => cond (Nat.beq i 0) ([], [3]) ([], [])
def i_numberOf.G1 (n : Nat) (R : Type) (t : i_numberOf.sh1.T) (K : Ex → Kp → Option R) : Option R := i_numberOf.l1 (fun y0 => K (.ext 0) (SK.enc i_numberOf.sh1e0 ((y0, ()), ()))) n t.1.1 t.1.2.1 t.1.2.2.1 t.1.2.2.2.1
def i_numberOf.S1 : Sum := ⟨([], [0, 3, 6, 7]), sumF i_numberOf.sh1 (i_numberOf.G1 fuel), i_numberOf.ko1⟩
theorem i_numberOf.ok1 (hE : EOk Try.prog (i_numberOf.E)) : SumOk Try.prog i_numberOf.E (cB (cR (cL (cR (cR (bodyOf Try.f140)))))) (i_numberOf.S1) := by
  have hh : HintOk Try.prog i_numberOf.E (cB (cB (cR (cL (cR (cR (bodyOf Try.f140))))))) (.a) := HintOk.n1 (Q := True) (by kernel_rfl) trivial
  have h := loopS (kin := ([], [0, 3, 6, 7])) (kout := i_numberOf.ko1) (sh := i_numberOf.sh1) (F := i_numberOf.G1) (ops_ok (hE.gv _)) (by kernel_rfl) hh (fun _ _ _ => rfl) (fun n R t K => by kernel_rfl) fuel
  exact HintOk.n1 (c := (cB (cR (cL (cR (cR (bodyOf Try.f140))))))) (h := .s (i_numberOf.S1)) (P := Try.prog) (E := i_numberOf.E) (by kernel_rfl) h
theorem i_numberOf.hok (hE : EOk Try.prog (i_numberOf.E)) : HintOk Try.prog i_numberOf.E (bodyOf Try.f140) (.n (.a) (.n (.a) (.n (.n (.a) (.b (.s (i_numberOf.S1)))) (.a)))) := HintOk.n1 (Q := (True) ∧ ((True) ∧ (((True) ∧ (SumOk Try.prog i_numberOf.E (cB (cR (cL (cR (cR (bodyOf Try.f140)))))) (i_numberOf.S1))) ∧ (True)))) (by kernel_rfl) ⟨trivial, ⟨trivial, ⟨⟨trivial, (i_numberOf.ok1 hE)⟩, trivial⟩⟩⟩
theorem i_numberOf.hE : EOk Try.prog (i_numberOf.E) := EOk.of ttOk (trivial)
theorem i_numberOf.fok : FOk Try.prog 140 i_numberOf.fi :=
  fokS (E := i_numberOf.E) (wy := ⟨[[none]], [[]], []⟩) (h := (fun gs => .n (.a) (.n (.a) (.n (.n (.a) (.b (.s (i_numberOf.S1)))) (.a))))) (G := fun t g => i_numberOf.F (fun y0 => g y0) t.1) (by kernel_rfl) i_numberOf.hE Try.func140 (by kernel_rfl) rfl (Nat.le_refl _) (fun t => HintOk.n1 (by kernel_rfl) (i_numberOf.hok i_numberOf.hE)) (fun t g => i_numberOf_nat g t.1) (fun t => by kernel_rfl)
/-! __loop.example_g00220_impl.reader_.take -/
def i_reader_take.F {R : Type} (kk : ByteArray → ByteArray → Bool → Option R) (r_s : ByteArray) (r_bad : Bool) (many : Int) : Option R :=
  cond (r_bad) (kk ByteArray.empty r_s true) (
    cond (decide (many > (ByteArray.size r_s : Int))) (kk ByteArray.empty r_s true) (
      grd (gSl (0 : Int) many (ByteArray.size r_s)) <|
      grd (gSl many (ByteArray.size r_s : Int) (ByteArray.size r_s)) <|
      kk (cut r_s (0 : Int) many) (cut r_s many (ByteArray.size r_s : Int)) r_bad))
theorem i_reader_take.F_nat {R S : Type} (g : R → Option S) (kk : ByteArray → ByteArray → Bool → Option R) (r_s : ByteArray) (r_bad : Bool) (many : Int) : i_reader_take.F (fun y0 y1 y2 => (kk y0 y1 y2).bind g) r_s r_bad many = (i_reader_take.F kk r_s r_bad many).bind g := by
  simp only [i_reader_take.F, grd_bind, cnd_bind, bnd_bind, non_bind]
def i_reader_take (r_s : ByteArray) (r_bad : Bool) (many : Int) : Option (ByteArray × ByteArray × Bool) := i_reader_take.F (fun y0 y1 y2 => some (y0, y1, y2)) r_s r_bad many
theorem i_reader_take_nat {S : Type} (g : (ByteArray × ByteArray × Bool) → Option S) (r_s : ByteArray) (r_bad : Bool) (many : Int) : i_reader_take.F (fun y0 y1 y2 => g (y0, y1, y2)) r_s r_bad many = (i_reader_take r_s r_bad many).bind g := i_reader_take.F_nat g (fun y0 y1 y2 => some (y0, y1, y2)) r_s r_bad many
def i_reader_take.out : (ByteArray × ByteArray × Bool) → CRes := fun a => ⟨encL SV.enc [.one (.str)] (a.1, ()), [encL SC.enc [.str, .bool] (a.2.1, a.2.2, ()), encL SC.enc [] ()]⟩
def i_reader_take.ps : List PS := [.ptr [none, none], .val [none]]
def i_reader_take.sA : List SA := [.ptr [.str, .bool], .v (.one (.int .i64))]
def i_reader_take.fi : FI := FIs i_reader_take.sA (ByteArray × ByteArray × Bool) (fun t => i_reader_take t.1.1 t.1.2.1 t.2.1) i_reader_take.out i_reader_take.ps
def i_reader_take.E : Env := ⟨tt, lkF [], 38, 1, [], []⟩
theorem i_reader_take.hok (hE : EOk Try.prog (i_reader_take.E)) : HintOk Try.prog i_reader_take.E (bodyOf Try.f141) (.a) := HintOk.n1 (Q := True) (by kernel_rfl) trivial
theorem i_reader_take.hE : EOk Try.prog (i_reader_take.E) := EOk.of ttOk (trivial)
theorem i_reader_take.fok : FOk Try.prog 141 i_reader_take.fi :=
  fokS (E := i_reader_take.E) (wy := ⟨[[none]], [[none, none], []], []⟩) (h := (fun gs => .a)) (G := fun t g => i_reader_take.F (fun y0 y1 y2 => g (y0, y1, y2)) t.1.1 t.1.2.1 t.2.1) (by kernel_rfl) i_reader_take.hE Try.func141 (by kernel_rfl) rfl (Nat.le_refl _) (fun t => HintOk.n1 (by kernel_rfl) (i_reader_take.hok i_reader_take.hE)) (fun t g => i_reader_take_nat g t.1.1 t.1.2.1 t.2.1) (fun t => by kernel_rfl)
/-! __loop.example_g00220_impl.reader_.number -/
def i_reader_number.F {R : Type} (kk : Int → ByteArray → Bool → Option R) (r_s : ByteArray) (r_bad : Bool) (many : Int) : Option R :=
  (i_reader_take r_s r_bad many).bind fun r =>
  (i_numberOf r.1).bind fun r1 =>
  kk r1 r.2.1 r.2.2
theorem i_reader_number.F_nat {R S : Type} (g : R → Option S) (kk : Int → ByteArray → Bool → Option R) (r_s : ByteArray) (r_bad : Bool) (many : Int) : i_reader_number.F (fun y0 y1 y2 => (kk y0 y1 y2).bind g) r_s r_bad many = (i_reader_number.F kk r_s r_bad many).bind g := by
  simp only [i_reader_number.F, grd_bind, cnd_bind, bnd_bind, non_bind]
def i_reader_number (r_s : ByteArray) (r_bad : Bool) (many : Int) : Option (Int × ByteArray × Bool) := i_reader_number.F (fun y0 y1 y2 => some (y0, y1, y2)) r_s r_bad many
theorem i_reader_number_nat {S : Type} (g : (Int × ByteArray × Bool) → Option S) (r_s : ByteArray) (r_bad : Bool) (many : Int) : i_reader_number.F (fun y0 y1 y2 => g (y0, y1, y2)) r_s r_bad many = (i_reader_number r_s r_bad many).bind g := i_reader_number.F_nat g (fun y0 y1 y2 => some (y0, y1, y2)) r_s r_bad many
def i_reader_number.out : (Int × ByteArray × Bool) → CRes := fun a => ⟨encL SV.enc [.one (.int .i64)] (a.1, ()), [encL SC.enc [.str, .bool] (a.2.1, a.2.2, ()), encL SC.enc [] ()]⟩
def i_reader_number.ps : List PS := [.ptr [none, none], .val [none]]
def i_reader_number.sA : List SA := [.ptr [.str, .bool], .v (.one (.int .i64))]
def i_reader_number.fi : FI := FIs i_reader_number.sA (Int × ByteArray × Bool) (fun t => i_reader_number t.1.1 t.1.2.1 t.2.1) i_reader_number.out i_reader_number.ps
def i_reader_number.E : Env := ⟨tt, lkF [(140, i_numberOf.fi), (141, i_reader_take.fi)], 9, 1, [], []⟩
theorem i_reader_number.hok (hE : EOk Try.prog (i_reader_number.E)) : HintOk Try.prog i_reader_number.E (bodyOf Try.f99) (.a) := HintOk.n1 (Q := True) (by kernel_rfl) trivial
theorem i_reader_number.hE : EOk Try.prog (i_reader_number.E) := EOk.of ttOk (⟨i_numberOf.fok, ⟨i_reader_take.fok, trivial⟩⟩)
theorem i_reader_number.fok : FOk Try.prog 99 i_reader_number.fi :=
  fokS (E := i_reader_number.E) (wy := ⟨[[none]], [[none, none], []], []⟩) (h := (fun gs => .a)) (G := fun t g => i_reader_number.F (fun y0 y1 y2 => g (y0, y1, y2)) t.1.1 t.1.2.1 t.2.1) (by kernel_rfl) i_reader_number.hE Try.func99 (by kernel_rfl) rfl (Nat.le_refl _) (fun t => HintOk.n1 (by kernel_rfl) (i_reader_number.hok i_reader_number.hE)) (fun t g => i_reader_number_nat g t.1.1 t.1.2.1 t.2.1) (fun t => by kernel_rfl)
/-! __loop.example_g00220_impl.reader_.counted -/
def i_reader_counted.F {R : Type} (kk : ByteArray → ByteArray → Bool → Option R) (r_s : ByteArray) (r_bad : Bool) : Option R :=
  (i_reader_number r_s r_bad (1 : Int)).bind fun r =>
  (i_reader_take r.2.1 r.2.2 r.1).bind fun r1 =>
  kk r1.1 r1.2.1 r1.2.2
theorem i_reader_counted.F_nat {R S : Type} (g : R → Option S) (kk : ByteArray → ByteArray → Bool → Option R) (r_s : ByteArray) (r_bad : Bool) : i_reader_counted.F (fun y0 y1 y2 => (kk y0 y1 y2).bind g) r_s r_bad = (i_reader_counted.F kk r_s r_bad).bind g := by
  simp only [i_reader_counted.F, grd_bind, cnd_bind, bnd_bind, non_bind]
def i_reader_counted (r_s : ByteArray) (r_bad : Bool) : Option (ByteArray × ByteArray × Bool) := i_reader_counted.F (fun y0 y1 y2 => some (y0, y1, y2)) r_s r_bad
theorem i_reader_counted_nat {S : Type} (g : (ByteArray × ByteArray × Bool) → Option S) (r_s : ByteArray) (r_bad : Bool) : i_reader_counted.F (fun y0 y1 y2 => g (y0, y1, y2)) r_s r_bad = (i_reader_counted r_s r_bad).bind g := i_reader_counted.F_nat g (fun y0 y1 y2 => some (y0, y1, y2)) r_s r_bad
def i_reader_counted.out : (ByteArray × ByteArray × Bool) → CRes := fun a => ⟨encL SV.enc [.one (.str)] (a.1, ()), [encL SC.enc [.str, .bool] (a.2.1, a.2.2, ())]⟩
def i_reader_counted.ps : List PS := [.ptr [none, none]]
def i_reader_counted.sA : List SA := [.ptr [.str, .bool]]
def i_reader_counted.fi : FI := FIs i_reader_counted.sA (ByteArray × ByteArray × Bool) (fun t => i_reader_counted t.1.1 t.1.2.1) i_reader_counted.out i_reader_counted.ps
def i_reader_counted.E : Env := ⟨tt, lkF [(99, i_reader_number.fi), (141, i_reader_take.fi)], 7, 1, [], []⟩
theorem i_reader_counted.hok (hE : EOk Try.prog (i_reader_counted.E)) : HintOk Try.prog i_reader_counted.E (bodyOf Try.f100) (.a) := HintOk.n1 (Q := True) (by kernel_rfl) trivial
theorem i_reader_counted.hE : EOk Try.prog (i_reader_counted.E) := EOk.of ttOk (⟨i_reader_number.fok, ⟨i_reader_take.fok, trivial⟩⟩)
theorem i_reader_counted.fok : FOk Try.prog 100 i_reader_counted.fi :=
  fokS (E := i_reader_counted.E) (wy := ⟨[[none]], [[none, none]], []⟩) (h := (fun gs => .a)) (G := fun t g => i_reader_counted.F (fun y0 y1 y2 => g (y0, y1, y2)) t.1.1 t.1.2.1) (by kernel_rfl) i_reader_counted.hE Try.func100 (by kernel_rfl) rfl (Nat.le_refl _) (fun t => HintOk.n1 (by kernel_rfl) (i_reader_counted.hok i_reader_counted.hE)) (fun t g => i_reader_counted_nat g t.1.1 t.1.2.1) (fun t => by kernel_rfl)
/-! loop.example_g00220_impl.readCommand -/
def i_readCommand.F {R : Type} (kk : Int → Int → Int → ByteArray → ByteArray → Bool → Option R) (s : ByteArray) : Option R :=
  (i_reader_number s false (1 : Int)).bind fun r =>
  (i_reader_number r.2.1 r.2.2 (2 : Int)).bind fun r1 =>
  (i_reader_number r1.2.1 r1.2.2 (2 : Int)).bind fun r2 =>
  (i_reader_counted r2.2.1 r2.2.2).bind fun r3 =>
  (i_reader_counted r3.2.1 r3.2.2).bind fun r4 =>
  cond (!r4.2.2) (
    cond (sEq r4.2.1 ByteArray.empty) (
      (i_CommandOK r.1 r1.1 r2.1 r3.1 r4.1).bind fun r5 =>
      kk r.1 r1.1 r2.1 r3.1 r4.1 r5) (kk r.1 r1.1 r2.1 r3.1 r4.1 false)) (kk r.1 r1.1 r2.1 r3.1 r4.1 false)
theorem i_readCommand.F_nat {R S : Type} (g : R → Option S) (kk : Int → Int → Int → ByteArray → ByteArray → Bool → Option R) (s : ByteArray) : i_readCommand.F (fun y0 y1 y2 y3 y4 y5 => (kk y0 y1 y2 y3 y4 y5).bind g) s = (i_readCommand.F kk s).bind g := by
  simp only [i_readCommand.F, grd_bind, cnd_bind, bnd_bind, non_bind]
def i_readCommand (s : ByteArray) : Option (Int × Int × Int × ByteArray × ByteArray × Bool) := i_readCommand.F (fun y0 y1 y2 y3 y4 y5 => some (y0, y1, y2, y3, y4, y5)) s
theorem i_readCommand_nat {S : Type} (g : (Int × Int × Int × ByteArray × ByteArray × Bool) → Option S) (s : ByteArray) : i_readCommand.F (fun y0 y1 y2 y3 y4 y5 => g (y0, y1, y2, y3, y4, y5)) s = (i_readCommand s).bind g := i_readCommand.F_nat g (fun y0 y1 y2 y3 y4 y5 => some (y0, y1, y2, y3, y4, y5)) s
def i_readCommand.out : (Int × Int × Int × ByteArray × ByteArray × Bool) → CRes := fun a => ⟨encL SV.enc [.agg [.int .i64, .int .i64, .int .i64, .str, .str], .one (.bool)] ((a.1, a.2.1, a.2.2.1, a.2.2.2.1, a.2.2.2.2.1, ()), a.2.2.2.2.2, ()), [encL SC.enc [] ()]⟩
def i_readCommand.ps : List PS := [.val [none]]
def i_readCommand.sA : List SA := [.v (.one (.str))]
def i_readCommand.fi : FI := FIs i_readCommand.sA (Int × Int × Int × ByteArray × ByteArray × Bool) (fun t => i_readCommand t.1) i_readCommand.out i_readCommand.ps
def i_readCommand.E : Env := ⟨tt, lkF [(17, i_CommandOK.fi), (99, i_reader_number.fi), (100, i_reader_counted.fi)], 42, 0, [], []⟩
theorem i_readCommand.hok (hE : EOk Try.prog (i_readCommand.E)) : HintOk Try.prog i_readCommand.E (bodyOf Try.f50) (.a) := HintOk.n1 (Q := True) (by kernel_rfl) trivial
theorem i_readCommand.hE : EOk Try.prog (i_readCommand.E) := EOk.of ttOk (⟨i_CommandOK.fok, ⟨i_reader_number.fok, ⟨i_reader_counted.fok, trivial⟩⟩⟩)
theorem i_readCommand.fok : FOk Try.prog 50 i_readCommand.fi :=
  fokS (E := i_readCommand.E) (wy := ⟨[[none, none, none, none, none], [none]], [[]], []⟩) (h := (fun gs => .a)) (G := fun t g => i_readCommand.F (fun y0 y1 y2 y3 y4 y5 => g (y0, y1, y2, y3, y4, y5)) t.1) (by kernel_rfl) i_readCommand.hE Try.func50 (by kernel_rfl) rfl (Nat.le_refl _) (fun t => HintOk.n1 (by kernel_rfl) (i_readCommand.hok i_readCommand.hE)) (fun t g => i_readCommand_nat g t.1) (fun t => by kernel_rfl)
/-! loop.example_g00220_impl.ReadCommand -/
def i_ReadCommand.F {R : Type} (kk : Int → Int → Int → ByteArray → ByteArray → Int → Option R) (b : List Int) : Option R :=
  cond (decide ((List.length b : Int) > (65536 : Int))) (kk (0 : Int) (0 : Int) (0 : Int) ByteArray.empty ByteArray.empty (2 : Int)) (
    (i_readCommand (strL b)).bind fun r =>
    cond (!r.2.2.2.2.2) (kk (0 : Int) (0 : Int) (0 : Int) ByteArray.empty ByteArray.empty (3 : Int)) (kk r.1 r.2.1 r.2.2.1 r.2.2.2.1 r.2.2.2.2.1 (0 : Int)))
theorem i_ReadCommand.F_nat {R S : Type} (g : R → Option S) (kk : Int → Int → Int → ByteArray → ByteArray → Int → Option R) (b : List Int) : i_ReadCommand.F (fun y0 y1 y2 y3 y4 y5 => (kk y0 y1 y2 y3 y4 y5).bind g) b = (i_ReadCommand.F kk b).bind g := by
  simp only [i_ReadCommand.F, grd_bind, cnd_bind, bnd_bind, non_bind]
def i_ReadCommand (b : List Int) : Option (Int × Int × Int × ByteArray × ByteArray × Int) := i_ReadCommand.F (fun y0 y1 y2 y3 y4 y5 => some (y0, y1, y2, y3, y4, y5)) b
theorem i_ReadCommand_nat {S : Type} (g : (Int × Int × Int × ByteArray × ByteArray × Int) → Option S) (b : List Int) : i_ReadCommand.F (fun y0 y1 y2 y3 y4 y5 => g (y0, y1, y2, y3, y4, y5)) b = (i_ReadCommand b).bind g := i_ReadCommand.F_nat g (fun y0 y1 y2 y3 y4 y5 => some (y0, y1, y2, y3, y4, y5)) b
def i_ReadCommand.out : (Int × Int × Int × ByteArray × ByteArray × Int) → CRes := fun a => ⟨encL SV.enc [.agg [.int .i64, .int .i64, .int .i64, .str, .str], .one (.int .i64)] ((a.1, a.2.1, a.2.2.1, a.2.2.2.1, a.2.2.2.2.1, ()), a.2.2.2.2.2, ()), [encL SC.enc [] ()]⟩
def i_ReadCommand.ps : List PS := [.val [some ((.int .u8), false)]]
def i_ReadCommand.sA : List SA := [.v (.one (.slv [] (.int .u8)))]
def i_ReadCommand.fi : FI := FIs i_ReadCommand.sA (Int × Int × Int × ByteArray × ByteArray × Int) (fun t => i_ReadCommand t.1) i_ReadCommand.out i_ReadCommand.ps
def i_ReadCommand.E : Env := ⟨tt, lkF [(50, i_readCommand.fi)], 20, 0, [], []⟩
theorem i_ReadCommand.hok (hE : EOk Try.prog (i_ReadCommand.E)) : HintOk Try.prog i_ReadCommand.E (bodyOf Try.f12) (.a) := HintOk.n1 (Q := True) (by kernel_rfl) trivial
theorem i_ReadCommand.hE : EOk Try.prog (i_ReadCommand.E) := EOk.of ttOk (⟨i_readCommand.fok, trivial⟩)
theorem i_ReadCommand.fok : FOk Try.prog 12 i_ReadCommand.fi :=
  fokS (E := i_ReadCommand.E) (wy := ⟨[[none, none, none, none, none], [none]], [[]], []⟩) (h := (fun gs => .a)) (G := fun t g => i_ReadCommand.F (fun y0 y1 y2 y3 y4 y5 => g (y0, y1, y2, y3, y4, y5)) t.1) (by kernel_rfl) i_ReadCommand.hE Try.func12 (by kernel_rfl) rfl (Nat.le_refl _) (fun t => HintOk.n1 (by kernel_rfl) (i_ReadCommand.hok i_ReadCommand.hE)) (fun t g => i_ReadCommand_nat g t.1) (fun t => by kernel_rfl)
/-! __loop.example_g00220_spec.l00Src_.entry -/
def s_l00Src_entry.F {R : Type} (kk : Int → Int → ByteArray → List Int → Int → Int → Option R) (s_code : List Int) (s_at : Int) (s_seed : Int) : Option R :=
  (s_l00Src_next s_code s_at s_seed (4 : Int)).bind fun r =>
  (s_l00Src_command r.2.1 r.2.2.1 r.2.2.2).bind fun r1 =>
  (s_l02Bytes r1.1 r1.2.1 r1.2.2.1 r1.2.2.2.1 r1.2.2.2.2.1).bind fun r2 =>
  (s_l00Src_next r1.2.2.2.2.2.1 r1.2.2.2.2.2.2.1 r1.2.2.2.2.2.2.2 (6 : Int)).bind fun r3 =>
  cond (r3.1 == (0 : Int)) (kk (IntKind.wrap .i64 ((1 : Int) + r.1)) (0 : Int) ByteArray.empty r3.2.1 r3.2.2.1 r3.2.2.2) (
    cond (r3.1 == (1 : Int)) (
      (s_l00Src_pick r3.2.1 r3.2.2.1 r3.2.2.2 [(⟨#[0, 1, 2]⟩ : ByteArray), (⟨#[0, 1]⟩ : ByteArray), (⟨#[0, 1, 2, 3]⟩ : ByteArray), (⟨#[4]⟩ : ByteArray)]).bind fun r4 =>
      kk (IntKind.wrap .i64 ((1 : Int) + r.1)) (2 : Int) r4.1 r4.2.1 r4.2.2.1 r4.2.2.2) (kk (IntKind.wrap .i64 ((1 : Int) + r.1)) (1 : Int) (strL r2) r3.2.1 r3.2.2.1 r3.2.2.2))
theorem s_l00Src_entry.F_nat {R S : Type} (g : R → Option S) (kk : Int → Int → ByteArray → List Int → Int → Int → Option R) (s_code : List Int) (s_at : Int) (s_seed : Int) : s_l00Src_entry.F (fun y0 y1 y2 y3 y4 y5 => (kk y0 y1 y2 y3 y4 y5).bind g) s_code s_at s_seed = (s_l00Src_entry.F kk s_code s_at s_seed).bind g := by
  simp only [s_l00Src_entry.F, grd_bind, cnd_bind, bnd_bind, non_bind]
def s_l00Src_entry (s_code : List Int) (s_at : Int) (s_seed : Int) : Option (Int × Int × ByteArray × List Int × Int × Int) := s_l00Src_entry.F (fun y0 y1 y2 y3 y4 y5 => some (y0, y1, y2, y3, y4, y5)) s_code s_at s_seed
theorem s_l00Src_entry_nat {S : Type} (g : (Int × Int × ByteArray × List Int × Int × Int) → Option S) (s_code : List Int) (s_at : Int) (s_seed : Int) : s_l00Src_entry.F (fun y0 y1 y2 y3 y4 y5 => g (y0, y1, y2, y3, y4, y5)) s_code s_at s_seed = (s_l00Src_entry s_code s_at s_seed).bind g := s_l00Src_entry.F_nat g (fun y0 y1 y2 y3 y4 y5 => some (y0, y1, y2, y3, y4, y5)) s_code s_at s_seed
def s_l00Src_entry.out : (Int × Int × ByteArray × List Int × Int × Int) → CRes := fun a => ⟨encL SV.enc [.agg [.int .i64, .int .i64, .str]] ((a.1, a.2.1, a.2.2.1, ()), ()), [encL SC.enc [.slv [1] (.int .u8), .int .i64, .int .i64] (a.2.2.2.1, a.2.2.2.2.1, a.2.2.2.2.2, ())]⟩
def s_l00Src_entry.ps : List PS := [.ptr [some ((.int .u8), false), none, none]]
def s_l00Src_entry.sA : List SA := [.ptr [.slv [] (.int .u8), .int .i64, .int .i64]]
def s_l00Src_entry.fi : FI := FIs s_l00Src_entry.sA (Int × Int × ByteArray × List Int × Int × Int) (fun t => s_l00Src_entry t.1.1 t.1.2.1 t.1.2.2.1) s_l00Src_entry.out s_l00Src_entry.ps
def s_l00Src_entry.E : Env := ⟨tt, lkF [(46, s_l00Src_command.fi), (49, s_l02Bytes.fi), (91, s_l00Src_next.fi), (101, s_l00Src_pick.fi)], 27, 1, [], []⟩
theorem s_l00Src_entry.hok (hE : EOk Try.prog (s_l00Src_entry.E)) : HintOk Try.prog s_l00Src_entry.E (bodyOf Try.f51) (.a) := HintOk.n1 (Q := True) (by kernel_rfl) trivial
theorem s_l00Src_entry.hE : EOk Try.prog (s_l00Src_entry.E) := EOk.of ttOk (⟨s_l00Src_command.fok, ⟨s_l02Bytes.fok, ⟨s_l00Src_next.fok, ⟨s_l00Src_pick.fok, trivial⟩⟩⟩⟩)
theorem s_l00Src_entry.fok : FOk Try.prog 51 s_l00Src_entry.fi :=
  fokS (E := s_l00Src_entry.E) (wy := ⟨[[none, none, none]], [[some ((.int .u8), false), none, none]], []⟩) (h := (fun gs => .a)) (G := fun t g => s_l00Src_entry.F (fun y0 y1 y2 y3 y4 y5 => g (y0, y1, y2, y3, y4, y5)) t.1.1 t.1.2.1 t.1.2.2.1) (by kernel_rfl) s_l00Src_entry.hE Try.func51 (by kernel_rfl) rfl (Nat.le_refl _) (fun t => HintOk.n1 (by kernel_rfl) (s_l00Src_entry.hok s_l00Src_entry.hE)) (fun t g => s_l00Src_entry_nat g t.1.1 t.1.2.1 t.1.2.2.1) (fun t => by kernel_rfl)
/-! loop.example_g00220_spec.EntryOf -/
def s_EntryOf.F {R : Type} (kk : Int → Int → ByteArray → Option R) (code : List Int) : Option R :=
  (s_l00Source code).bind fun r =>
  (s_l00Src_entry r.1 r.2.1 r.2.2).bind fun r1 =>
  kk r1.1 r1.2.1 r1.2.2.1
theorem s_EntryOf.F_nat {R S : Type} (g : R → Option S) (kk : Int → Int → ByteArray → Option R) (code : List Int) : s_EntryOf.F (fun y0 y1 y2 => (kk y0 y1 y2).bind g) code = (s_EntryOf.F kk code).bind g := by
  simp only [s_EntryOf.F, grd_bind, cnd_bind, bnd_bind, non_bind]
def s_EntryOf (code : List Int) : Option (Int × Int × ByteArray) := s_EntryOf.F (fun y0 y1 y2 => some (y0, y1, y2)) code
theorem s_EntryOf_nat {S : Type} (g : (Int × Int × ByteArray) → Option S) (code : List Int) : s_EntryOf.F (fun y0 y1 y2 => g (y0, y1, y2)) code = (s_EntryOf code).bind g := s_EntryOf.F_nat g (fun y0 y1 y2 => some (y0, y1, y2)) code
def s_EntryOf.out : (Int × Int × ByteArray) → CRes := fun a => ⟨encL SV.enc [.agg [.int .i64, .int .i64, .str]] ((a.1, a.2.1, a.2.2, ()), ()), [encL SC.enc [] ()]⟩
def s_EntryOf.ps : List PS := [.val [some ((.int .u8), false)]]
def s_EntryOf.sA : List SA := [.v (.one (.slv [] (.int .u8)))]
def s_EntryOf.fi : FI := FIs s_EntryOf.sA (Int × Int × ByteArray) (fun t => s_EntryOf t.1) s_EntryOf.out s_EntryOf.ps
def s_EntryOf.E : Env := ⟨tt, lkF [(45, s_l00Source.fi), (51, s_l00Src_entry.fi)], 6, 0, [], []⟩
theorem s_EntryOf.hok (hE : EOk Try.prog (s_EntryOf.E)) : HintOk Try.prog s_EntryOf.E (bodyOf Try.f13) (.a) := HintOk.n1 (Q := True) (by kernel_rfl) trivial
theorem s_EntryOf.hE : EOk Try.prog (s_EntryOf.E) := EOk.of ttOk (⟨s_l00Source.fok, ⟨s_l00Src_entry.fok, trivial⟩⟩)
theorem s_EntryOf.fok : FOk Try.prog 13 s_EntryOf.fi :=
  fokS (E := s_EntryOf.E) (wy := ⟨[[none, none, none]], [[]], []⟩) (h := (fun gs => .a)) (G := fun t g => s_EntryOf.F (fun y0 y1 y2 => g (y0, y1, y2)) t.1) (by kernel_rfl) s_EntryOf.hE Try.func13 (by kernel_rfl) rfl (Nat.le_refl _) (fun t => HintOk.n1 (by kernel_rfl) (s_EntryOf.hok s_EntryOf.hE)) (fun t g => s_EntryOf_nat g t.1) (fun t => by kernel_rfl)
/-! slices.IndexFunc___int_int_ -/
def slices_IndexFunc_SLint_int.l1 {R : Type} (f : ((Int × Unit) → Option (Bool × Unit))) (kke0 : Option R) (kkr : Int → Option R) : Nat → List Int → Int → Int → Option R
  | 0, _, _, _ => none
  | n + 1, s, i, i1 =>
    cond (decide (i1 < i)) (
      grd (gIx i1 (List.length s)) <|
      (f (rdE (.int .i64 : Kd) s (Int.toNat i1), ())).bind fun r =>
      cond (r.1) (kkr i1) (slices_IndexFunc_SLint_int.l1 f kke0 kkr n s i (IntKind.wrap .i64 (i1 + (1 : Int))))) (kke0)
theorem slices_IndexFunc_SLint_int.l1_nat {R S : Type} (g : R → Option S) (f : ((Int × Unit) → Option (Bool × Unit))) (kke0 : Option R) (kkr : Int → Option R) : ∀ (n : Nat) (s : List Int) (i : Int) (i1 : Int), slices_IndexFunc_SLint_int.l1 f (kke0.bind g) (fun y0 => (kkr y0).bind g) n s i i1 = (slices_IndexFunc_SLint_int.l1 f kke0 kkr n s i i1).bind g := by
  intro n
  induction n with
  | zero => intros; rfl
  | succ n ih => intros; simp only [slices_IndexFunc_SLint_int.l1, grd_bind, cnd_bind, bnd_bind, non_bind, ih]
def slices_IndexFunc_SLint_int.F {R : Type} (kk : Int → Option R) (s : List Int) (f : ((Int × Unit) → Option (Bool × Unit))) : Option R :=
  slices_IndexFunc_SLint_int.l1 f (kk (-1 : Int)) (fun i => kk i) fuel s (List.length s : Int) (0 : Int)
theorem slices_IndexFunc_SLint_int.F_nat {R S : Type} (g : R → Option S) (kk : Int → Option R) (s : List Int) (f : ((Int × Unit) → Option (Bool × Unit))) : slices_IndexFunc_SLint_int.F (fun y0 => (kk y0).bind g) s f = (slices_IndexFunc_SLint_int.F kk s f).bind g := by
  simp only [slices_IndexFunc_SLint_int.F, grd_bind, cnd_bind, bnd_bind, non_bind, ← slices_IndexFunc_SLint_int.l1_nat]
def slices_IndexFunc_SLint_int (s : List Int) (f : ((Int × Unit) → Option (Bool × Unit))) : Option Int := slices_IndexFunc_SLint_int.F (fun y0 => some y0) s f
theorem slices_IndexFunc_SLint_int_nat {S : Type} (g : Int → Option S) (s : List Int) (f : ((Int × Unit) → Option (Bool × Unit))) : slices_IndexFunc_SLint_int.F (fun y0 => g y0) s f = (slices_IndexFunc_SLint_int s f).bind g := slices_IndexFunc_SLint_int.F_nat g (fun y0 => some y0) s f
def slices_IndexFunc_SLint_int.out : Int → CRes := fun a => ⟨encL SV.enc [.one (.int .i64)] (a, ()), [encL SC.enc [] (), encL SC.enc [] ()]⟩
def slices_IndexFunc_SLint_int.ps : List PS := [.val [some ((.int .i64), false)], .fn [.one (.bool)]]
def slices_IndexFunc_SLint_int.sA : List SA := [.v (.one (.slv [] (.int .i64))), .fn [.one (.int .i64)] [.one (.bool)]]
def slices_IndexFunc_SLint_int.fi : FI := FIs slices_IndexFunc_SLint_int.sA (Int) (fun t => slices_IndexFunc_SLint_int t.1 t.2.1) slices_IndexFunc_SLint_int.out slices_IndexFunc_SLint_int.ps
def slices_IndexFunc_SLint_int.E : Env := ⟨tt, lkF [], 19, 0, [], []⟩
def slices_IndexFunc_SLint_int.sh1 : SK := ⟨[.v (.one (.slv [1] (.int .i64))), .v (.one (.fv 0)), .v (.one (.int .i64)), .v (.one (.int .i64))], []⟩
def slices_IndexFunc_SLint_int.sh1e0 : SK := ⟨[], []⟩
def slices_IndexFunc_SLint_int.sh1r : SK := ⟨[.v (.one (.int .i64))], []⟩
def slices_IndexFunc_SLint_int.ko1 : Ex → List CastAt × List Nat
  | .nrm => ([], [])
  | .ret => ([], [4])
  | .ext i => cond (Nat.beq i 0) ([], []) ([], [])
def slices_IndexFunc_SLint_int.G1 (f : ((Int × Unit) → Option (Bool × Unit))) (n : Nat) (R : Type) (t : slices_IndexFunc_SLint_int.sh1.T) (K : Ex → Kp → Option R) : Option R := slices_IndexFunc_SLint_int.l1 f (K (.ext 0) (SK.enc slices_IndexFunc_SLint_int.sh1e0 ((), ()))) (fun y0 => K .ret (SK.enc slices_IndexFunc_SLint_int.sh1r ((y0, ()), ()))) n t.1.1 t.1.2.2.1 t.1.2.2.2.1
def slices_IndexFunc_SLint_int.S1 (f : ((Int × Unit) → Option (Bool × Unit))) : Sum := ⟨([], [0, 1, 7, 8]), sumF slices_IndexFunc_SLint_int.sh1 (slices_IndexFunc_SLint_int.G1 f fuel), slices_IndexFunc_SLint_int.ko1⟩
theorem slices_IndexFunc_SLint_int.ok1 (f : ((Int × Unit) → Option (Bool × Unit))) (hE : EOk Try.prog (slices_IndexFunc_SLint_int.E)) : SumOk Try.prog { (slices_IndexFunc_SLint_int.E) with gv := [fnE [.one (.int .i64)] [.one (.bool)] f] } (cB (cR (cL (cR (bodyOf Try.f186))))) (slices_IndexFunc_SLint_int.S1 f) := by
  have hh : HintOk Try.prog { (slices_IndexFunc_SLint_int.E) with gv := [fnE [.one (.int .i64)] [.one (.bool)] f] } (cB (cB (cR (cL (cR (bodyOf Try.f186)))))) (.a) := HintOk.n1 (Q := True) (by kernel_rfl) trivial
  have h := loopS (kin := ([], [0, 1, 7, 8])) (kout := slices_IndexFunc_SLint_int.ko1) (sh := slices_IndexFunc_SLint_int.sh1) (F := slices_IndexFunc_SLint_int.G1 f) (ops_ok (hE.gv _)) (by kernel_rfl) hh (fun _ _ _ => rfl) (fun n R t K => by kernel_rfl) fuel
  exact HintOk.n1 (c := (cB (cR (cL (cR (bodyOf Try.f186)))))) (h := .s (slices_IndexFunc_SLint_int.S1 f)) (P := Try.prog) (E := { (slices_IndexFunc_SLint_int.E) with gv := [fnE [.one (.int .i64)] [.one (.bool)] f] }) (by kernel_rfl) h
theorem slices_IndexFunc_SLint_int.hok (f : ((Int × Unit) → Option (Bool × Unit))) (hE : EOk Try.prog (slices_IndexFunc_SLint_int.E)) : HintOk Try.prog { (slices_IndexFunc_SLint_int.E) with gv := [fnE [.one (.int .i64)] [.one (.bool)] f] } (bodyOf Try.f186) (.n (.a) (.n (.n (.a) (.b (.s (slices_IndexFunc_SLint_int.S1 f)))) (.a))) := HintOk.n1 (Q := (True) ∧ (((True) ∧ (SumOk Try.prog { (slices_IndexFunc_SLint_int.E) with gv := [fnE [.one (.int .i64)] [.one (.bool)] f] } (cB (cR (cL (cR (bodyOf Try.f186))))) (slices_IndexFunc_SLint_int.S1 f))) ∧ (True))) (by kernel_rfl) ⟨trivial, ⟨⟨trivial, (slices_IndexFunc_SLint_int.ok1 f hE)⟩, trivial⟩⟩
theorem slices_IndexFunc_SLint_int.hE : EOk Try.prog (slices_IndexFunc_SLint_int.E) := EOk.of ttOk (trivial)
theorem slices_IndexFunc_SLint_int.fok : FOk Try.prog 186 slices_IndexFunc_SLint_int.fi :=
  fokS (E := slices_IndexFunc_SLint_int.E) (wy := ⟨[[none]], [[], []], []⟩) (h := (fun gs => let f := fnP [.one (.int .i64)] [.one (.bool)] (gN 0 gs); .n (.a) (.n (.n (.a) (.b (.s (slices_IndexFunc_SLint_int.S1 f)))) (.a)))) (G := fun t g => slices_IndexFunc_SLint_int.F (fun y0 => g y0) t.1 t.2.1) (by kernel_rfl) slices_IndexFunc_SLint_int.hE Try.func186 (by kernel_rfl) rfl (Nat.le_refl _) (fun t => HintOk.n1 (by kernel_rfl) (slices_IndexFunc_SLint_int.hok t.2.1 slices_IndexFunc_SLint_int.hE)) (fun t g => slices_IndexFunc_SLint_int_nat g t.1 t.2.1) (fun t => by kernel_rfl)
/-! slices.ContainsFunc___int_int_ -/
def slices_ContainsFunc_SLint_int.F {R : Type} (kk : Bool → Option R) (s : List Int) (f : ((Int × Unit) → Option (Bool × Unit))) : Option R :=
  (slices_IndexFunc_SLint_int s f).bind fun r =>
  kk (decide (r ≥ (0 : Int)))
theorem slices_ContainsFunc_SLint_int.F_nat {R S : Type} (g : R → Option S) (kk : Bool → Option R) (s : List Int) (f : ((Int × Unit) → Option (Bool × Unit))) : slices_ContainsFunc_SLint_int.F (fun y0 => (kk y0).bind g) s f = (slices_ContainsFunc_SLint_int.F kk s f).bind g := by
  simp only [slices_ContainsFunc_SLint_int.F, grd_bind, cnd_bind, bnd_bind, non_bind]
def slices_ContainsFunc_SLint_int (s : List Int) (f : ((Int × Unit) → Option (Bool × Unit))) : Option Bool := slices_ContainsFunc_SLint_int.F (fun y0 => some y0) s f
theorem slices_ContainsFunc_SLint_int_nat {S : Type} (g : Bool → Option S) (s : List Int) (f : ((Int × Unit) → Option (Bool × Unit))) : slices_ContainsFunc_SLint_int.F (fun y0 => g y0) s f = (slices_ContainsFunc_SLint_int s f).bind g := slices_ContainsFunc_SLint_int.F_nat g (fun y0 => some y0) s f
def slices_ContainsFunc_SLint_int.out : Bool → CRes := fun a => ⟨encL SV.enc [.one (.bool)] (a, ()), [encL SC.enc [] (), encL SC.enc [] ()]⟩
def slices_ContainsFunc_SLint_int.ps : List PS := [.val [some ((.int .i64), false)], .fn [.one (.bool)]]
def slices_ContainsFunc_SLint_int.sA : List SA := [.v (.one (.slv [] (.int .i64))), .fn [.one (.int .i64)] [.one (.bool)]]
def slices_ContainsFunc_SLint_int.fi : FI := FIs slices_ContainsFunc_SLint_int.sA (Bool) (fun t => slices_ContainsFunc_SLint_int t.1 t.2.1) slices_ContainsFunc_SLint_int.out slices_ContainsFunc_SLint_int.ps
def slices_ContainsFunc_SLint_int.E : Env := ⟨tt, lkF [(186, slices_IndexFunc_SLint_int.fi)], 9, 0, [], []⟩
theorem slices_ContainsFunc_SLint_int.hok (f : ((Int × Unit) → Option (Bool × Unit))) (hE : EOk Try.prog (slices_ContainsFunc_SLint_int.E)) : HintOk Try.prog { (slices_ContainsFunc_SLint_int.E) with gv := [fnE [.one (.int .i64)] [.one (.bool)] f] } (bodyOf Try.f181) (.a) := HintOk.n1 (Q := True) (by kernel_rfl) trivial
theorem slices_ContainsFunc_SLint_int.hE : EOk Try.prog (slices_ContainsFunc_SLint_int.E) := EOk.of ttOk (⟨slices_IndexFunc_SLint_int.fok, trivial⟩)
theorem slices_ContainsFunc_SLint_int.fok : FOk Try.prog 181 slices_ContainsFunc_SLint_int.fi :=
  fokS (E := slices_ContainsFunc_SLint_int.E) (wy := ⟨[[none]], [[], []], []⟩) (h := (fun gs => let f := fnP [.one (.int .i64)] [.one (.bool)] (gN 0 gs); .a)) (G := fun t g => slices_ContainsFunc_SLint_int.F (fun y0 => g y0) t.1 t.2.1) (by kernel_rfl) slices_ContainsFunc_SLint_int.hE Try.func181 (by kernel_rfl) rfl (Nat.le_refl _) (fun t => HintOk.n1 (by kernel_rfl) (slices_ContainsFunc_SLint_int.hok t.2.1 slices_ContainsFunc_SLint_int.hE)) (fun t g => slices_ContainsFunc_SLint_int_nat g t.1 t.2.1) (fun t => by kernel_rfl)
/-! loop.example_g00220_impl.areNumbers$1 -/
def i_areNumbers_1.F {R : Type} (kk : Bool → Option R) (n_ : Int) : Option R :=
  (i_within n_ (0 : Int) (6 : Int)).bind fun r =>
  kk !r
theorem i_areNumbers_1.F_nat {R S : Type} (g : R → Option S) (kk : Bool → Option R) (n_ : Int) : i_areNumbers_1.F (fun y0 => (kk y0).bind g) n_ = (i_areNumbers_1.F kk n_).bind g := by
  simp only [i_areNumbers_1.F, grd_bind, cnd_bind, bnd_bind, non_bind]
def i_areNumbers_1 (n_ : Int) : Option Bool := i_areNumbers_1.F (fun y0 => some y0) n_
theorem i_areNumbers_1_nat {S : Type} (g : Bool → Option S) (n_ : Int) : i_areNumbers_1.F (fun y0 => g y0) n_ = (i_areNumbers_1 n_).bind g := i_areNumbers_1.F_nat g (fun y0 => some y0) n_
def i_areNumbers_1.out : Bool → CRes := fun a => ⟨encL SV.enc [.one (.bool)] (a, ()), [encL SC.enc [] ()]⟩
def i_areNumbers_1.ps : List PS := [.val [none]]
def i_areNumbers_1.sA : List SA := [.v (.one (.int .i64))]
def i_areNumbers_1.fi : FI := FIs i_areNumbers_1.sA (Bool) (fun t => i_areNumbers_1 t.1) i_areNumbers_1.out i_areNumbers_1.ps
def i_areNumbers_1.E : Env := ⟨tt, lkF [(79, i_within.fi)], 6, 0, [], []⟩
theorem i_areNumbers_1.hok (hE : EOk Try.prog (i_areNumbers_1.E)) : HintOk Try.prog i_areNumbers_1.E (bodyOf Try.f182) (.a) := HintOk.n1 (Q := True) (by kernel_rfl) trivial
theorem i_areNumbers_1.hE : EOk Try.prog (i_areNumbers_1.E) := EOk.of ttOk (⟨i_within.fok, trivial⟩)
theorem i_areNumbers_1.fok : FOk Try.prog 182 i_areNumbers_1.fi :=
  fokS (E := i_areNumbers_1.E) (wy := ⟨[[none]], [[]], []⟩) (h := (fun gs => .a)) (G := fun t g => i_areNumbers_1.F (fun y0 => g y0) t.1) (by kernel_rfl) i_areNumbers_1.hE Try.func182 (by kernel_rfl) rfl (Nat.le_refl _) (fun t => HintOk.n1 (by kernel_rfl) (i_areNumbers_1.hok i_areNumbers_1.hE)) (fun t g => i_areNumbers_1_nat g t.1) (fun t => by kernel_rfl)
/-! loop.example_g00220_impl.areNumbers -/
def i_areNumbers.F {R : Type} (kk : Bool → Option R) (list : List Int) : Option R :=
  (slices_ContainsFunc_SLint_int list (fun t => (i_areNumbers_1 t.1).bind fun a => some (a, ()))).bind fun r =>
  kk !r
theorem i_areNumbers.F_nat {R S : Type} (g : R → Option S) (kk : Bool → Option R) (list : List Int) : i_areNumbers.F (fun y0 => (kk y0).bind g) list = (i_areNumbers.F kk list).bind g := by
  simp only [i_areNumbers.F, grd_bind, cnd_bind, bnd_bind, non_bind]
def i_areNumbers (list : List Int) : Option Bool := i_areNumbers.F (fun y0 => some y0) list
theorem i_areNumbers_nat {S : Type} (g : Bool → Option S) (list : List Int) : i_areNumbers.F (fun y0 => g y0) list = (i_areNumbers list).bind g := i_areNumbers.F_nat g (fun y0 => some y0) list
def i_areNumbers.out : Bool → CRes := fun a => ⟨encL SV.enc [.one (.bool)] (a, ()), [encL SC.enc [] ()]⟩
def i_areNumbers.ps : List PS := [.val [some ((.int .i64), false)]]
def i_areNumbers.sA : List SA := [.v (.one (.slv [] (.int .i64)))]
def i_areNumbers.fi : FI := FIs i_areNumbers.sA (Bool) (fun t => i_areNumbers t.1) i_areNumbers.out i_areNumbers.ps
def i_areNumbers.E : Env := ⟨tt, lkF [(181, slices_ContainsFunc_SLint_int.fi), (182, i_areNumbers_1.fi)], 6, 0, [], []⟩
theorem i_areNumbers.hok (hE : EOk Try.prog (i_areNumbers.E)) : HintOk Try.prog i_areNumbers.E (bodyOf Try.f166) (.a) := HintOk.n1 (Q := True) (by kernel_rfl) trivial
theorem i_areNumbers.hE : EOk Try.prog (i_areNumbers.E) := EOk.of ttOk (⟨slices_ContainsFunc_SLint_int.fok, ⟨i_areNumbers_1.fok, trivial⟩⟩)
theorem i_areNumbers.fok : FOk Try.prog 166 i_areNumbers.fi :=
  fokS (E := i_areNumbers.E) (wy := ⟨[[none]], [[]], []⟩) (h := (fun gs => .a)) (G := fun t g => i_areNumbers.F (fun y0 => g y0) t.1) (by kernel_rfl) i_areNumbers.hE Try.func166 (by kernel_rfl) rfl (Nat.le_refl _) (fun t => HintOk.n1 (by kernel_rfl) (i_areNumbers.hok i_areNumbers.hE)) (fun t g => i_areNumbers_nat g t.1) (fun t => by kernel_rfl)
end
end Go.Proofs.YtdpjbeeokimnaaaA
