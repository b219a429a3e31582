/-
  Functions of the program, and that the small machine's runs are these. No condition.
  Printed by wip/amp/main.py (a session's own program) out of Lean's print of the program; Lean's kernel checks it.
-/
import Derived.Test.YtdpjbeeokimnaaaXgF1
namespace Go.Proofs.YtdpjbeeokimnaaaA
open Go
noncomputable section
set_option linter.unusedVariables false
set_option linter.unusedSimpArgs false
set_option maxRecDepth 100000

/-! loop.example_g00220_impl.areRising -/
def i_areRising.l1 {R : Type} (kke0 : Option R) (kkr : Bool → Option R) : Nat → List Int → Int → Option R
  | 0, _, _ => none
  | n + 1, list, i =>
    cond (decide (i < (List.length list : Int))) (
      grd (gIx (IntKind.wrap .i64 (i - (1 : Int))) (List.length list)) <|
      grd (gIx i (List.length list)) <|
      cond (decide ((rdE (.int .i64 : Kd) list (Int.toNat (IntKind.wrap .i64 (i - (1 : Int))))) ≥ (rdE (.int .i64 : Kd) list (Int.toNat i)))) (kkr false) (i_areRising.l1 kke0 kkr n list (IntKind.wrap .i64 (i + (1 : Int))))) (kke0)
theorem i_areRising.l1_nat {R S : Type} (g : R → Option S) (kke0 : Option R) (kkr : Bool → Option R) : ∀ (n : Nat) (list : List Int) (i : Int), i_areRising.l1 (kke0.bind g) (fun y0 => (kkr y0).bind g) n list i = (i_areRising.l1 kke0 kkr n list i).bind g := by
  intro n
  induction n with
  | zero => intros; rfl
  | succ n ih => intros; simp only [i_areRising.l1, grd_bind, cnd_bind, bnd_bind, non_bind, ih]
def i_areRising.F {R : Type} (kk : Bool → Option R) (list : List Int) : Option R :=
  i_areRising.l1 (kk true) (fun b => kk b) fuel list (1 : Int)
theorem i_areRising.F_nat {R S : Type} (g : R → Option S) (kk : Bool → Option R) (list : List Int) : i_areRising.F (fun y0 => (kk y0).bind g) list = (i_areRising.F kk list).bind g := by
  simp only [i_areRising.F, grd_bind, cnd_bind, bnd_bind, non_bind, ← i_areRising.l1_nat]
def i_areRising (list : List Int) : Option Bool := i_areRising.F (fun y0 => some y0) list
theorem i_areRising_nat {S : Type} (g : Bool → Option S) (list : List Int) : i_areRising.F (fun y0 => g y0) list = (i_areRising list).bind g := i_areRising.F_nat g (fun y0 => some y0) list
def i_areRising.out : Bool → CRes := fun a => ⟨encL SV.enc [.one (.bool)] (a, ()), [encL SC.enc [] ()]⟩
def i_areRising.ps : List PS := [.val [some ((.int .i64), false)]]
def i_areRising.sA : List SA := [.v (.one (.slv [] (.int .i64)))]
def i_areRising.fi : FI := FIs i_areRising.sA (Bool) (fun t => i_areRising t.1) i_areRising.out i_areRising.ps
def i_areRising.E : Env := ⟨tt, lkF [], 20, 0, [], []⟩
def i_areRising.sh1 : SK := ⟨[.v (.one (.slv [1] (.int .i64))), .v (.one (.int .i64))], []⟩
def i_areRising.sh1e0 : SK := ⟨[], []⟩
def i_areRising.sh1r : SK := ⟨[.v (.one (.bool))], []⟩
def i_areRising.ko1 : Ex → List CastAt × List Nat
  | .nrm => ([], [])
  | .ret => ([], [2])
  | .ext i => cond (Nat.beq i 0) ([], []) ([], [])
def i_areRising.G1 (n : Nat) (R : Type) (t : i_areRising.sh1.T) (K : Ex → Kp → Option R) : Option R := i_areRising.l1 (K (.ext 0) (SK.enc i_areRising.sh1e0 ((), ()))) (fun y0 => K .ret (SK.enc i_areRising.sh1r ((y0, ()), ()))) n t.1.1 t.1.2.1
def i_areRising.S1 : Sum := ⟨([], [0, 3]), sumF i_areRising.sh1 (i_areRising.G1 fuel), i_areRising.ko1⟩
theorem i_areRising.ok1 (hE : EOk Try.prog (i_areRising.E)) : SumOk Try.prog i_areRising.E (cB (cR (cL (cR (bodyOf Try.f167))))) (i_areRising.S1) := by
  have hh : HintOk Try.prog i_areRising.E (cB (cB (cR (cL (cR (bodyOf Try.f167)))))) (.a) := HintOk.n1 (Q := True) (by kernel_rfl) trivial
  have h := loopS (kin := ([], [0, 3])) (kout := i_areRising.ko1) (sh := i_areRising.sh1) (F := i_areRising.G1) (ops_ok (hE.gv _)) (by kernel_rfl) hh (fun _ _ _ => rfl) (fun n R t K => by kernel_rfl) fuel
  exact HintOk.n1 (c := (cB (cR (cL (cR (bodyOf Try.f167)))))) (h := .s (i_areRising.S1)) (P := Try.prog) (E := i_areRising.E) (by kernel_rfl) h
theorem i_areRising.hok (hE : EOk Try.prog (i_areRising.E)) : HintOk Try.prog i_areRising.E (bodyOf Try.f167) (.n (.a) (.n (.n (.a) (.b (.s (i_areRising.S1)))) (.a))) := HintOk.n1 (Q := (True) ∧ (((True) ∧ (SumOk Try.prog i_areRising.E (cB (cR (cL (cR (bodyOf Try.f167))))) (i_areRising.S1))) ∧ (True))) (by kernel_rfl) ⟨trivial, ⟨⟨trivial, (i_areRising.ok1 hE)⟩, trivial⟩⟩
theorem i_areRising.hE : EOk Try.prog (i_areRising.E) := EOk.of ttOk (trivial)
theorem i_areRising.fok : FOk Try.prog 167 i_areRising.fi :=
  fokS (E := i_areRising.E) (wy := ⟨[[none]], [[]], []⟩) (h := (fun gs => .n (.a) (.n (.n (.a) (.b (.s (i_areRising.S1)))) (.a)))) (G := fun t g => i_areRising.F (fun y0 => g y0) t.1) (by kernel_rfl) i_areRising.hE Try.func167 (by kernel_rfl) rfl (Nat.le_refl _) (fun t => HintOk.n1 (by kernel_rfl) (i_areRising.hok i_areRising.hE)) (fun t g => i_areRising_nat g t.1) (fun t => by kernel_rfl)
/-! loop.example_g00220_impl.membersOK -/
def i_membersOK.F {R : Type} (kk : Bool → Option R) (members : List Int) : Option R :=
  cond (decide ((List.length members : Int) > (0 : Int))) (
    (i_areNumbers members).bind fun r =>
    cond (r) (
      (i_areRising members).bind fun r1 =>
      kk r1) (kk false)) (kk false)
theorem i_membersOK.F_nat {R S : Type} (g : R → Option S) (kk : Bool → Option R) (members : List Int) : i_membersOK.F (fun y0 => (kk y0).bind g) members = (i_membersOK.F kk members).bind g := by
  simp only [i_membersOK.F, grd_bind, cnd_bind, bnd_bind, non_bind]
def i_membersOK (members : List Int) : Option Bool := i_membersOK.F (fun y0 => some y0) members
theorem i_membersOK_nat {S : Type} (g : Bool → Option S) (members : List Int) : i_membersOK.F (fun y0 => g y0) members = (i_membersOK members).bind g := i_membersOK.F_nat g (fun y0 => some y0) members
def i_membersOK.out : Bool → CRes := fun a => ⟨encL SV.enc [.one (.bool)] (a, ()), [encL SC.enc [] ()]⟩
def i_membersOK.ps : List PS := [.val [some ((.int .i64), false)]]
def i_membersOK.sA : List SA := [.v (.one (.slv [] (.int .i64)))]
def i_membersOK.fi : FI := FIs i_membersOK.sA (Bool) (fun t => i_membersOK t.1) i_membersOK.out i_membersOK.ps
def i_membersOK.E : Env := ⟨tt, lkF [(166, i_areNumbers.fi), (167, i_areRising.fi)], 14, 0, [], []⟩
theorem i_membersOK.hok (hE : EOk Try.prog (i_membersOK.E)) : HintOk Try.prog i_membersOK.E (bodyOf Try.f142) (.a) := HintOk.n1 (Q := True) (by kernel_rfl) trivial
theorem i_membersOK.hE : EOk Try.prog (i_membersOK.E) := EOk.of ttOk (⟨i_areNumbers.fok, ⟨i_areRising.fok, trivial⟩⟩)
theorem i_membersOK.fok : FOk Try.prog 142 i_membersOK.fi :=
  fokS (E := i_membersOK.E) (wy := ⟨[[none]], [[]], []⟩) (h := (fun gs => .a)) (G := fun t g => i_membersOK.F (fun y0 => g y0) t.1) (by kernel_rfl) i_membersOK.hE Try.func142 (by kernel_rfl) rfl (Nat.le_refl _) (fun t => HintOk.n1 (by kernel_rfl) (i_membersOK.hok i_membersOK.hE)) (fun t g => i_membersOK_nat g t.1) (fun t => by kernel_rfl)
/-! loop.example_g00220_impl.readMembers -/
def i_readMembers.l1 {R : Type} (kke0 : List Int → Option R) : Nat → ByteArray → Int → Int → List Int → Option R
  | 0, _, _, _, _ => none
  | n + 1, data, i, i1, out =>
    cond (decide (i1 < i)) (
      grd (gIx i1 (ByteArray.size data)) <|
      grd (gRm (((List.length out) + (List.length [IntKind.wrap .i64 (byteAt data i1)])) * 8)) <|
      i_readMembers.l1 kke0 n data i (IntKind.wrap .i64 (i1 + (1 : Int))) (out ++ [IntKind.wrap .i64 (byteAt data i1)])) (kke0 out)
theorem i_readMembers.l1_nat {R S : Type} (g : R → Option S) (kke0 : List Int → Option R) : ∀ (n : Nat) (data : ByteArray) (i : Int) (i1 : Int) (out : List Int), i_readMembers.l1 (fun y0 => (kke0 y0).bind g) n data i i1 out = (i_readMembers.l1 kke0 n data i i1 out).bind g := by
  intro n
  induction n with
  | zero => intros; rfl
  | succ n ih => intros; simp only [i_readMembers.l1, grd_bind, cnd_bind, bnd_bind, non_bind, ih]
def i_readMembers.F {R : Type} (kk : List Int → Bool → Option R) (data : ByteArray) : Option R :=
  i_readMembers.l1 (fun out =>
    (i_membersOK out).bind fun r =>
    kk out r) fuel data (ByteArray.size data : Int) (0 : Int) ([] : List Int)
theorem i_readMembers.F_nat {R S : Type} (g : R → Option S) (kk : List Int → Bool → Option R) (data : ByteArray) : i_readMembers.F (fun y0 y1 => (kk y0 y1).bind g) data = (i_readMembers.F kk data).bind g := by
  simp only [i_readMembers.F, grd_bind, cnd_bind, bnd_bind, non_bind, ← i_readMembers.l1_nat]
def i_readMembers (data : ByteArray) : Option (List Int × Bool) := i_readMembers.F (fun y0 y1 => some (y0, y1)) data
theorem i_readMembers_nat {S : Type} (g : (List Int × Bool) → Option S) (data : ByteArray) : i_readMembers.F (fun y0 y1 => g (y0, y1)) data = (i_readMembers data).bind g := i_readMembers.F_nat g (fun y0 y1 => some (y0, y1)) data
def i_readMembers.out : (List Int × Bool) → CRes := fun a => ⟨encL SV.enc [.one (.own [] (.int .i64) true), .one (.bool)] (a.1, a.2, ()), [encL SC.enc [] ()]⟩
def i_readMembers.ps : List PS := [.val [none]]
def i_readMembers.sA : List SA := [.v (.one (.str))]
def i_readMembers.fi : FI := FIs i_readMembers.sA (List Int × Bool) (fun t => i_readMembers t.1) i_readMembers.out i_readMembers.ps
def i_readMembers.E : Env := ⟨tt, lkF [(142, i_membersOK.fi)], 23, 0, [], []⟩
def i_readMembers.sh1 : SK := ⟨[.v (.one (.str)), .v (.one (.slo 0)), .v (.one (.int .i64)), .v (.one (.int .i64))], [.arr (.int .i64) [] true]⟩
def i_readMembers.sh1e0 : SK := ⟨[.v (.one (.slo 0))], [.arr (.int .i64) [] true]⟩
def i_readMembers.ko1 : Ex → List CastAt × List Nat
  | .nrm => ([], [])
  | .ret => ([], [])
  | .ext i => cond (Nat.beq i 0) ([], [4]) ([], [])
def i_readMembers.G1 (n : Nat) (R : Type) (t : i_readMembers.sh1.T) (K : Ex → Kp → Option R) : Option R := i_readMembers.l1 (fun y0 => K (.ext 0) (SK.enc i_readMembers.sh1e0 (((), ()), (y0, ())))) n t.1.1 t.1.2.2.1 t.1.2.2.2.1 t.2.1
def i_readMembers.S1 : Sum := ⟨([], [0, 4, 8, 9]), sumF i_readMembers.sh1 (i_readMembers.G1 fuel), i_readMembers.ko1⟩
theorem i_readMembers.ok1 (hE : EOk Try.prog (i_readMembers.E)) : SumOk Try.prog i_readMembers.E (cB (cR (cL (cR (cR (bodyOf Try.f102)))))) (i_readMembers.S1) := by
  have hh : HintOk Try.prog i_readMembers.E (cB (cB (cR (cL (cR (cR (bodyOf Try.f102))))))) (.a) := HintOk.n1 (Q := True) (by kernel_rfl) trivial
  have h := loopS (kin := ([], [0, 4, 8, 9])) (kout := i_readMembers.ko1) (sh := i_readMembers.sh1) (F := i_readMembers.G1) (ops_ok (hE.gv _)) (by kernel_rfl) hh (fun _ _ _ => rfl) (fun n R t K => by kernel_rfl) fuel
  exact HintOk.n1 (c := (cB (cR (cL (cR (cR (bodyOf Try.f102))))))) (h := .s (i_readMembers.S1)) (P := Try.prog) (E := i_readMembers.E) (by kernel_rfl) h
theorem i_readMembers.hok (hE : EOk Try.prog (i_readMembers.E)) : HintOk Try.prog i_readMembers.E (bodyOf Try.f102) (.n (.a) (.n (.a) (.n (.n (.a) (.b (.s (i_readMembers.S1)))) (.a)))) := HintOk.n1 (Q := (True) ∧ ((True) ∧ (((True) ∧ (SumOk Try.prog i_readMembers.E (cB (cR (cL (cR (cR (bodyOf Try.f102)))))) (i_readMembers.S1))) ∧ (True)))) (by kernel_rfl) ⟨trivial, ⟨trivial, ⟨⟨trivial, (i_readMembers.ok1 hE)⟩, trivial⟩⟩⟩
theorem i_readMembers.hE : EOk Try.prog (i_readMembers.E) := EOk.of ttOk (⟨i_membersOK.fok, trivial⟩)
theorem i_readMembers.fok : FOk Try.prog 102 i_readMembers.fi :=
  fokS (E := i_readMembers.E) (wy := ⟨[[some ((.int .i64), true)], [none]], [[]], []⟩) (h := (fun gs => .n (.a) (.n (.a) (.n (.n (.a) (.b (.s (i_readMembers.S1)))) (.a))))) (G := fun t g => i_readMembers.F (fun y0 y1 => g (y0, y1)) t.1) (by kernel_rfl) i_readMembers.hE Try.func102 (by kernel_rfl) rfl (Nat.le_refl _) (fun t => HintOk.n1 (by kernel_rfl) (i_readMembers.hok i_readMembers.hE)) (fun t g => i_readMembers_nat g t.1) (fun t => by kernel_rfl)
/-! loop.example_g00220_impl.entryOK -/
def i_entryOK.F {R : Type} (kk : Bool → Option R) (e_Term : Int) (e_Kind : Int) (e_Data : ByteArray) : Option R :=
  (i_within e_Term (1 : Int) (1000000 : Int)).bind fun r =>
  cond (!r) (kk false) (
    cond (e_Kind == (0 : Int)) (kk (sEq e_Data ByteArray.empty)) (
      cond (e_Kind == (1 : Int)) (
        (i_within (ByteArray.size e_Data : Int) (1 : Int) (100 : Int)).bind fun r1 =>
        kk r1) (
        cond (e_Kind == (2 : Int)) (
          (i_readMembers e_Data).bind fun r2 =>
          kk r2.2) (kk false))))
theorem i_entryOK.F_nat {R S : Type} (g : R → Option S) (kk : Bool → Option R) (e_Term : Int) (e_Kind : Int) (e_Data : ByteArray) : i_entryOK.F (fun y0 => (kk y0).bind g) e_Term e_Kind e_Data = (i_entryOK.F kk e_Term e_Kind e_Data).bind g := by
  simp only [i_entryOK.F, grd_bind, cnd_bind, bnd_bind, non_bind]
def i_entryOK (e_Term : Int) (e_Kind : Int) (e_Data : ByteArray) : Option Bool := i_entryOK.F (fun y0 => some y0) e_Term e_Kind e_Data
theorem i_entryOK_nat {S : Type} (g : Bool → Option S) (e_Term : Int) (e_Kind : Int) (e_Data : ByteArray) : i_entryOK.F (fun y0 => g y0) e_Term e_Kind e_Data = (i_entryOK e_Term e_Kind e_Data).bind g := i_entryOK.F_nat g (fun y0 => some y0) e_Term e_Kind e_Data
def i_entryOK.out : Bool → CRes := fun a => ⟨encL SV.enc [.one (.bool)] (a, ()), [encL SC.enc [] ()]⟩
def i_entryOK.ps : List PS := [.val [none, none, none]]
def i_entryOK.sA : List SA := [.v (.agg [.int .i64, .int .i64, .str])]
def i_entryOK.fi : FI := FIs i_entryOK.sA (Bool) (fun t => i_entryOK t.1.1 t.1.2.1 t.1.2.2.1) i_entryOK.out i_entryOK.ps
def i_entryOK.E : Env := ⟨tt, lkF [(79, i_within.fi), (102, i_readMembers.fi)], 31, 0, [], []⟩
theorem i_entryOK.hok (hE : EOk Try.prog (i_entryOK.E)) : HintOk Try.prog i_entryOK.E (bodyOf Try.f52) (.a) := HintOk.n1 (Q := True) (by kernel_rfl) trivial
theorem i_entryOK.hE : EOk Try.prog (i_entryOK.E) := EOk.of ttOk (⟨i_within.fok, ⟨i_readMembers.fok, trivial⟩⟩)
theorem i_entryOK.fok : FOk Try.prog 52 i_entryOK.fi :=
  fokS (E := i_entryOK.E) (wy := ⟨[[none]], [[]], []⟩) (h := (fun gs => .a)) (G := fun t g => i_entryOK.F (fun y0 => g y0) t.1.1 t.1.2.1 t.1.2.2.1) (by kernel_rfl) i_entryOK.hE Try.func52 (by kernel_rfl) rfl (Nat.le_refl _) (fun t => HintOk.n1 (by kernel_rfl) (i_entryOK.hok i_entryOK.hE)) (fun t g => i_entryOK_nat g t.1.1 t.1.2.1 t.1.2.2.1) (fun t => by kernel_rfl)
/-! _loop.example_g00220_impl.Entry_.bytes -/
def i_Entry_bytes.F {R : Type} (kk : ByteArray → Option R) (e_Term : Int) (e_Kind : Int) (e_Data : ByteArray) : Option R :=
  (i_number e_Term (4 : Int)).bind fun r =>
  (i_number e_Kind (1 : Int)).bind fun r1 =>
  grd (gCat r r1) <|
  (i_counted e_Data).bind fun r2 =>
  grd (gCat (r ++ r1) r2) <|
  kk ((r ++ r1) ++ r2)
theorem i_Entry_bytes.F_nat {R S : Type} (g : R → Option S) (kk : ByteArray → Option R) (e_Term : Int) (e_Kind : Int) (e_Data : ByteArray) : i_Entry_bytes.F (fun y0 => (kk y0).bind g) e_Term e_Kind e_Data = (i_Entry_bytes.F kk e_Term e_Kind e_Data).bind g := by
  simp only [i_Entry_bytes.F, grd_bind, cnd_bind, bnd_bind, non_bind]
def i_Entry_bytes (e_Term : Int) (e_Kind : Int) (e_Data : ByteArray) : Option ByteArray := i_Entry_bytes.F (fun y0 => some y0) e_Term e_Kind e_Data
theorem i_Entry_bytes_nat {S : Type} (g : ByteArray → Option S) (e_Term : Int) (e_Kind : Int) (e_Data : ByteArray) : i_Entry_bytes.F (fun y0 => g y0) e_Term e_Kind e_Data = (i_Entry_bytes e_Term e_Kind e_Data).bind g := i_Entry_bytes.F_nat g (fun y0 => some y0) e_Term e_Kind e_Data
def i_Entry_bytes.out : ByteArray → CRes := fun a => ⟨encL SV.enc [.one (.str)] (a, ()), [encL SC.enc [] ()]⟩
def i_Entry_bytes.ps : List PS := [.val [none, none, none]]
def i_Entry_bytes.sA : List SA := [.v (.agg [.int .i64, .int .i64, .str])]
def i_Entry_bytes.fi : FI := FIs i_Entry_bytes.sA (ByteArray) (fun t => i_Entry_bytes t.1.1 t.1.2.1 t.1.2.2.1) i_Entry_bytes.out i_Entry_bytes.ps
def i_Entry_bytes.E : Env := ⟨tt, lkF [(95, i_number.fi), (96, i_counted.fi)], 14, 0, [], []⟩
theorem i_Entry_bytes.hok (hE : EOk Try.prog (i_Entry_bytes.E)) : HintOk Try.prog i_Entry_bytes.E (bodyOf Try.f53) (.a) := HintOk.n1 (Q := True) (by kernel_rfl) trivial
theorem i_Entry_bytes.hE : EOk Try.prog (i_Entry_bytes.E) := EOk.of ttOk (⟨i_number.fok, ⟨i_counted.fok, trivial⟩⟩)
theorem i_Entry_bytes.fok : FOk Try.prog 53 i_Entry_bytes.fi :=
  fokS (E := i_Entry_bytes.E) (wy := ⟨[[none]], [[]], []⟩) (h := (fun gs => .a)) (G := fun t g => i_Entry_bytes.F (fun y0 => g y0) t.1.1 t.1.2.1 t.1.2.2.1) (by kernel_rfl) i_Entry_bytes.hE Try.func53 (by kernel_rfl) rfl (Nat.le_refl _) (fun t => HintOk.n1 (by kernel_rfl) (i_Entry_bytes.hok i_Entry_bytes.hE)) (fun t g => i_Entry_bytes_nat g t.1.1 t.1.2.1 t.1.2.2.1) (fun t => by kernel_rfl)
/-! loop.example_g00220_impl.EntryBytes -/
def i_EntryBytes.F {R : Type} (kk : List Int → Int → Option R) (e_Term : Int) (e_Kind : Int) (e_Data : ByteArray) : Option R :=
  (i_entryOK e_Term e_Kind e_Data).bind fun r =>
  cond (!r) (kk [] (1 : Int)) (
    (i_Entry_bytes e_Term e_Kind e_Data).bind fun r1 =>
    kk (bytesL r1) (0 : Int))
theorem i_EntryBytes.F_nat {R S : Type} (g : R → Option S) (kk : List Int → Int → Option R) (e_Term : Int) (e_Kind : Int) (e_Data : ByteArray) : i_EntryBytes.F (fun y0 y1 => (kk y0 y1).bind g) e_Term e_Kind e_Data = (i_EntryBytes.F kk e_Term e_Kind e_Data).bind g := by
  simp only [i_EntryBytes.F, grd_bind, cnd_bind, bnd_bind, non_bind]
def i_EntryBytes (e_Term : Int) (e_Kind : Int) (e_Data : ByteArray) : Option (List Int × Int) := i_EntryBytes.F (fun y0 y1 => some (y0, y1)) e_Term e_Kind e_Data
theorem i_EntryBytes_nat {S : Type} (g : (List Int × Int) → Option S) (e_Term : Int) (e_Kind : Int) (e_Data : ByteArray) : i_EntryBytes.F (fun y0 y1 => g (y0, y1)) e_Term e_Kind e_Data = (i_EntryBytes e_Term e_Kind e_Data).bind g := i_EntryBytes.F_nat g (fun y0 y1 => some (y0, y1)) e_Term e_Kind e_Data
def i_EntryBytes.out : (List Int × Int) → CRes := fun a => ⟨encL SV.enc [.one (.own [] (.int .u8) true), .one (.int .i64)] (a.1, a.2, ()), [encL SC.enc [] ()]⟩
def i_EntryBytes.ps : List PS := [.val [none, none, none]]
def i_EntryBytes.sA : List SA := [.v (.agg [.int .i64, .int .i64, .str])]
def i_EntryBytes.fi : FI := FIs i_EntryBytes.sA (List Int × Int) (fun t => i_EntryBytes t.1.1 t.1.2.1 t.1.2.2.1) i_EntryBytes.out i_EntryBytes.ps
def i_EntryBytes.E : Env := ⟨tt, lkF [(52, i_entryOK.fi), (53, i_Entry_bytes.fi)], 10, 0, [], []⟩
theorem i_EntryBytes.hok (hE : EOk Try.prog (i_EntryBytes.E)) : HintOk Try.prog i_EntryBytes.E (bodyOf Try.f14) (.a) := HintOk.n1 (Q := True) (by kernel_rfl) trivial
theorem i_EntryBytes.hE : EOk Try.prog (i_EntryBytes.E) := EOk.of ttOk (⟨i_entryOK.fok, ⟨i_Entry_bytes.fok, trivial⟩⟩)
theorem i_EntryBytes.fok : FOk Try.prog 14 i_EntryBytes.fi :=
  fokS (E := i_EntryBytes.E) (wy := ⟨[[some ((.int .u8), true)], [none]], [[]], []⟩) (h := (fun gs => .a)) (G := fun t g => i_EntryBytes.F (fun y0 y1 => g (y0, y1)) t.1.1 t.1.2.1 t.1.2.2.1) (by kernel_rfl) i_EntryBytes.hE Try.func14 (by kernel_rfl) rfl (Nat.le_refl _) (fun t => HintOk.n1 (by kernel_rfl) (i_EntryBytes.hok i_EntryBytes.hE)) (fun t g => i_EntryBytes_nat g t.1.1 t.1.2.1 t.1.2.2.1) (fun t => by kernel_rfl)
/-! loop.example_g00220_spec.l02Members -/
def s_l02Members.l1 {R : Type} (kke0 : List Int → Option R) (kkr : Bool → List Int → Option R) : Nat → ByteArray → Int → List Int → Option R
  | 0, _, _, _ => none
  | n + 1, data, i, out =>
    cond (decide (i < (ByteArray.size data : Int))) (
      grd (gIx i (ByteArray.size data)) <|
      (s_l01In (IntKind.wrap .i64 (byteAt data i)) (0 : Int) (6 : Int)).bind fun r =>
      cond (!r) (kkr false ([] : List Int)) (
        cond (decide (i > (0 : Int))) (
          grd (gIx (IntKind.wrap .i64 (i - (1 : Int))) (ByteArray.size data)) <|
          grd (gIx i (ByteArray.size data)) <|
          cond (decide ((byteAt data (IntKind.wrap .i64 (i - (1 : Int)))) ≥ (byteAt data i))) (kkr false ([] : List Int)) (
            grd (gIx i (ByteArray.size data)) <|
            grd (gRm (((List.length out) + (List.length [IntKind.wrap .i64 (byteAt data i)])) * 8)) <|
            s_l02Members.l1 kke0 kkr n data (IntKind.wrap .i64 (i + (1 : Int))) (out ++ [IntKind.wrap .i64 (byteAt data i)]))) (
          grd (gIx i (ByteArray.size data)) <|
          grd (gRm (((List.length out) + (List.length [IntKind.wrap .i64 (byteAt data i)])) * 8)) <|
          s_l02Members.l1 kke0 kkr n data (IntKind.wrap .i64 (i + (1 : Int))) (out ++ [IntKind.wrap .i64 (byteAt data i)])))) (kke0 out)
theorem s_l02Members.l1_nat {R S : Type} (g : R → Option S) (kke0 : List Int → Option R) (kkr : Bool → List Int → Option R) : ∀ (n : Nat) (data : ByteArray) (i : Int) (out : List Int), s_l02Members.l1 (fun y0 => (kke0 y0).bind g) (fun y0 y1 => (kkr y0 y1).bind g) n data i out = (s_l02Members.l1 kke0 kkr n data i out).bind g := by
  intro n
  induction n with
  | zero => intros; rfl
  | succ n ih => intros; simp only [s_l02Members.l1, grd_bind, cnd_bind, bnd_bind, non_bind, ih]
def s_l02Members.F {R : Type} (kk : List Int → Bool → Option R) (data : ByteArray) : Option R :=
  s_l02Members.l1 (fun out => kk out (decide ((List.length out : Int) > (0 : Int)))) (fun b l => kk l b) fuel data (0 : Int) ([] : List Int)
theorem s_l02Members.F_nat {R S : Type} (g : R → Option S) (kk : List Int → Bool → Option R) (data : ByteArray) : s_l02Members.F (fun y0 y1 => (kk y0 y1).bind g) data = (s_l02Members.F kk data).bind g := by
  simp only [s_l02Members.F, grd_bind, cnd_bind, bnd_bind, non_bind, ← s_l02Members.l1_nat]
def s_l02Members (data : ByteArray) : Option (List Int × Bool) := s_l02Members.F (fun y0 y1 => some (y0, y1)) data
theorem s_l02Members_nat {S : Type} (g : (List Int × Bool) → Option S) (data : ByteArray) : s_l02Members.F (fun y0 y1 => g (y0, y1)) data = (s_l02Members data).bind g := s_l02Members.F_nat g (fun y0 y1 => some (y0, y1)) data
def s_l02Members.out : (List Int × Bool) → CRes := fun a => ⟨encL SV.enc [.one (.own [] (.int .i64) true), .one (.bool)] (a.1, a.2, ()), [encL SC.enc [] ()]⟩
def s_l02Members.ps : List PS := [.val [none]]
def s_l02Members.sA : List SA := [.v (.one (.str))]
def s_l02Members.fi : FI := FIs s_l02Members.sA (List Int × Bool) (fun t => s_l02Members t.1) s_l02Members.out s_l02Members.ps
def s_l02Members.E : Env := ⟨tt, lkF [(69, s_l01In.fi)], 45, 0, [], []⟩
def s_l02Members.sh1 : SK := ⟨[.v (.one (.str)), .v (.one (.slo 0)), .v (.one (.int .i64))], [.arr (.int .i64) [] true]⟩
def s_l02Members.sh1e0 : SK := ⟨[.v (.one (.slo 0))], [.arr (.int .i64) [] true]⟩
def s_l02Members.sh1r : SK := ⟨[.v (.one (.slo 0)), .v (.one (.bool))], [.arr (.int .i64) [] true]⟩
def s_l02Members.ko1 : Ex → List CastAt × List Nat
  | .nrm => ([], [])
  | .ret => ([], [2, 3])
  | .ext i => cond (Nat.beq i 0) ([], [4]) ([], [])
def s_l02Members.G1 (n : Nat) (R : Type) (t : s_l02Members.sh1.T) (K : Ex → Kp → Option R) : Option R := s_l02Members.l1 (fun y0 => K (.ext 0) (SK.enc s_l02Members.sh1e0 (((), ()), (y0, ())))) (fun y0 y1 => K .ret (SK.enc s_l02Members.sh1r (((), y0, ()), (y1, ())))) n t.1.1 t.1.2.2.1 t.2.1
def s_l02Members.S1 : Sum := ⟨([], [0, 4, 5]), sumF s_l02Members.sh1 (s_l02Members.G1 fuel), s_l02Members.ko1⟩
theorem s_l02Members.ok1 (hE : EOk Try.prog (s_l02Members.E)) : SumOk Try.prog s_l02Members.E (cB (cR (cL (cR (cR (bodyOf Try.f103)))))) (s_l02Members.S1) := by
  have hh : HintOk Try.prog s_l02Members.E (cB (cB (cR (cL (cR (cR (bodyOf Try.f103))))))) (.a) := HintOk.n1 (Q := True) (by kernel_rfl) trivial
  have h := loopS (kin := ([], [0, 4, 5])) (kout := s_l02Members.ko1) (sh := s_l02Members.sh1) (F := s_l02Members.G1) (ops_ok (hE.gv _)) (by kernel_rfl) hh (fun _ _ _ => rfl) (fun n R t K => by kernel_rfl) fuel
  exact HintOk.n1 (c := (cB (cR (cL (cR (cR (bodyOf Try.f103))))))) (h := .s (s_l02Members.S1)) (P := Try.prog) (E := s_l02Members.E) (by kernel_rfl) h
theorem s_l02Members.hok (hE : EOk Try.prog (s_l02Members.E)) : HintOk Try.prog s_l02Members.E (bodyOf Try.f103) (.n (.a) (.n (.a) (.n (.n (.a) (.b (.s (s_l02Members.S1)))) (.a)))) := HintOk.n1 (Q := (True) ∧ ((True) ∧ (((True) ∧ (SumOk Try.prog s_l02Members.E (cB (cR (cL (cR (cR (bodyOf Try.f103)))))) (s_l02Members.S1))) ∧ (True)))) (by kernel_rfl) ⟨trivial, ⟨trivial, ⟨⟨trivial, (s_l02Members.ok1 hE)⟩, trivial⟩⟩⟩
theorem s_l02Members.hE : EOk Try.prog (s_l02Members.E) := EOk.of ttOk (⟨s_l01In.fok, trivial⟩)
theorem s_l02Members.fok : FOk Try.prog 103 s_l02Members.fi :=
  fokS (E := s_l02Members.E) (wy := ⟨[[some ((.int .i64), true)], [none]], [[]], []⟩) (h := (fun gs => .n (.a) (.n (.a) (.n (.n (.a) (.b (.s (s_l02Members.S1)))) (.a))))) (G := fun t g => s_l02Members.F (fun y0 y1 => g (y0, y1)) t.1) (by kernel_rfl) s_l02Members.hE Try.func103 (by kernel_rfl) rfl (Nat.le_refl _) (fun t => HintOk.n1 (by kernel_rfl) (s_l02Members.hok s_l02Members.hE)) (fun t g => s_l02Members_nat g t.1) (fun t => by kernel_rfl)
/-! loop.example_g00220_spec.l02Entry -/
def s_l02Entry.F {R : Type} (kk : Bool → Option R) (e_Term : Int) (e_Kind : Int) (e_Data : ByteArray) : Option R :=
  (s_l01In e_Term (1 : Int) (1000000 : Int)).bind fun r =>
  cond (!r) (kk false) (
    cond (e_Kind == (0 : Int)) (kk (sEq e_Data ByteArray.empty)) (
      cond (e_Kind == (1 : Int)) (
        cond (decide ((ByteArray.size e_Data : Int) ≥ (1 : Int))) (kk (decide ((ByteArray.size e_Data : Int) ≤ (100 : Int)))) (kk false)) (
        cond (e_Kind == (2 : Int)) (
          (s_l02Members e_Data).bind fun r1 =>
          kk r1.2) (kk false))))
theorem s_l02Entry.F_nat {R S : Type} (g : R → Option S) (kk : Bool → Option R) (e_Term : Int) (e_Kind : Int) (e_Data : ByteArray) : s_l02Entry.F (fun y0 => (kk y0).bind g) e_Term e_Kind e_Data = (s_l02Entry.F kk e_Term e_Kind e_Data).bind g := by
  simp only [s_l02Entry.F, grd_bind, cnd_bind, bnd_bind, non_bind]
def s_l02Entry (e_Term : Int) (e_Kind : Int) (e_Data : ByteArray) : Option Bool := s_l02Entry.F (fun y0 => some y0) e_Term e_Kind e_Data
theorem s_l02Entry_nat {S : Type} (g : Bool → Option S) (e_Term : Int) (e_Kind : Int) (e_Data : ByteArray) : s_l02Entry.F (fun y0 => g y0) e_Term e_Kind e_Data = (s_l02Entry e_Term e_Kind e_Data).bind g := s_l02Entry.F_nat g (fun y0 => some y0) e_Term e_Kind e_Data
def s_l02Entry.out : Bool → CRes := fun a => ⟨encL SV.enc [.one (.bool)] (a, ()), [encL SC.enc [] ()]⟩
def s_l02Entry.ps : List PS := [.val [none, none, none]]
def s_l02Entry.sA : List SA := [.v (.agg [.int .i64, .int .i64, .str])]
def s_l02Entry.fi : FI := FIs s_l02Entry.sA (Bool) (fun t => s_l02Entry t.1.1 t.1.2.1 t.1.2.2.1) s_l02Entry.out s_l02Entry.ps
def s_l02Entry.E : Env := ⟨tt, lkF [(69, s_l01In.fi), (103, s_l02Members.fi)], 37, 0, [], []⟩
theorem s_l02Entry.hok (hE : EOk Try.prog (s_l02Entry.E)) : HintOk Try.prog s_l02Entry.E (bodyOf Try.f54) (.a) := HintOk.n1 (Q := True) (by kernel_rfl) trivial
theorem s_l02Entry.hE : EOk Try.prog (s_l02Entry.E) := EOk.of ttOk (⟨s_l01In.fok, ⟨s_l02Members.fok, trivial⟩⟩)
theorem s_l02Entry.fok : FOk Try.prog 54 s_l02Entry.fi :=
  fokS (E := s_l02Entry.E) (wy := ⟨[[none]], [[]], []⟩) (h := (fun gs => .a)) (G := fun t g => s_l02Entry.F (fun y0 => g y0) t.1.1 t.1.2.1 t.1.2.2.1) (by kernel_rfl) s_l02Entry.hE Try.func54 (by kernel_rfl) rfl (Nat.le_refl _) (fun t => HintOk.n1 (by kernel_rfl) (s_l02Entry.hok s_l02Entry.hE)) (fun t g => s_l02Entry_nat g t.1.1 t.1.2.1 t.1.2.2.1) (fun t => by kernel_rfl)
/-! loop.example_g00220_spec.l02Four -/
def s_l02Four.F {R : Type} (kk : List Int → Option R) (n_ : Int) : Option R :=
  grd (gSh (24 : Int)) <|
  grd (gSh (16 : Int)) <|
  grd (gSh (8 : Int)) <|
  kk [IntKind.wrap .u8 (iShr .i64 n_ (24 : Int)), IntKind.wrap .u8 (iShr .i64 n_ (16 : Int)), IntKind.wrap .u8 (iShr .i64 n_ (8 : Int)), IntKind.wrap .u8 n_]
theorem s_l02Four.F_nat {R S : Type} (g : R → Option S) (kk : List Int → Option R) (n_ : Int) : s_l02Four.F (fun y0 => (kk y0).bind g) n_ = (s_l02Four.F kk n_).bind g := by
  simp only [s_l02Four.F, grd_bind, cnd_bind, bnd_bind, non_bind]
def s_l02Four (n_ : Int) : Option (List Int) := s_l02Four.F (fun y0 => some y0) n_
theorem s_l02Four_nat {S : Type} (g : (List Int) → Option S) (n_ : Int) : s_l02Four.F (fun y0 => g y0) n_ = (s_l02Four n_).bind g := s_l02Four.F_nat g (fun y0 => some y0) n_
def s_l02Four.out : (List Int) → CRes := fun a => ⟨encL SV.enc [.one (.own [] (.int .u8) true)] (a, ()), [encL SC.enc [] ()]⟩
def s_l02Four.ps : List PS := [.val [none]]
def s_l02Four.sA : List SA := [.v (.one (.int .i64))]
def s_l02Four.fi : FI := FIs s_l02Four.sA (List Int) (fun t => s_l02Four t.1) s_l02Four.out s_l02Four.ps
def s_l02Four.E : Env := ⟨tt, lkF [], 15, 0, [], []⟩
theorem s_l02Four.hok (hE : EOk Try.prog (s_l02Four.E)) : HintOk Try.prog s_l02Four.E (bodyOf Try.f104) (.a) := HintOk.n1 (Q := True) (by kernel_rfl) trivial
theorem s_l02Four.hE : EOk Try.prog (s_l02Four.E) := EOk.of ttOk (trivial)
theorem s_l02Four.fok : FOk Try.prog 104 s_l02Four.fi :=
  fokS (E := s_l02Four.E) (wy := ⟨[[some ((.int .u8), true)]], [[]], []⟩) (h := (fun gs => .a)) (G := fun t g => s_l02Four.F (fun y0 => g y0) t.1) (by kernel_rfl) s_l02Four.hE Try.func104 (by kernel_rfl) rfl (Nat.le_refl _) (fun t => HintOk.n1 (by kernel_rfl) (s_l02Four.hok s_l02Four.hE)) (fun t g => s_l02Four_nat g t.1) (fun t => by kernel_rfl)
/-! loop.example_g00220_spec.l02EntryBytes -/
def s_l02EntryBytes.F {R : Type} (kk : List Int → Option R) (e_Term : Int) (e_Kind : Int) (e_Data : ByteArray) : Option R :=
  (s_l02Four e_Term).bind fun r =>
  grd (gRm (((List.length r) + (List.length [IntKind.wrap .u8 e_Kind, IntKind.wrap .u8 (ByteArray.size e_Data : Int)])) * 1)) <|
  grd (gRm (((List.length (r ++ [IntKind.wrap .u8 e_Kind, IntKind.wrap .u8 (ByteArray.size e_Data : Int)])) + (List.length (bytesL e_Data))) * 1)) <|
  kk ((r ++ [IntKind.wrap .u8 e_Kind, IntKind.wrap .u8 (ByteArray.size e_Data : Int)]) ++ (bytesL e_Data))
theorem s_l02EntryBytes.F_nat {R S : Type} (g : R → Option S) (kk : List Int → Option R) (e_Term : Int) (e_Kind : Int) (e_Data : ByteArray) : s_l02EntryBytes.F (fun y0 => (kk y0).bind g) e_Term e_Kind e_Data = (s_l02EntryBytes.F kk e_Term e_Kind e_Data).bind g := by
  simp only [s_l02EntryBytes.F, grd_bind, cnd_bind, bnd_bind, non_bind]
def s_l02EntryBytes (e_Term : Int) (e_Kind : Int) (e_Data : ByteArray) : Option (List Int) := s_l02EntryBytes.F (fun y0 => some y0) e_Term e_Kind e_Data
theorem s_l02EntryBytes_nat {S : Type} (g : (List Int) → Option S) (e_Term : Int) (e_Kind : Int) (e_Data : ByteArray) : s_l02EntryBytes.F (fun y0 => g y0) e_Term e_Kind e_Data = (s_l02EntryBytes e_Term e_Kind e_Data).bind g := s_l02EntryBytes.F_nat g (fun y0 => some y0) e_Term e_Kind e_Data
def s_l02EntryBytes.out : (List Int) → CRes := fun a => ⟨encL SV.enc [.one (.own [] (.int .u8) true)] (a, ()), [encL SC.enc [] ()]⟩
def s_l02EntryBytes.ps : List PS := [.val [none, none, none]]
def s_l02EntryBytes.sA : List SA := [.v (.agg [.int .i64, .int .i64, .str])]
def s_l02EntryBytes.fi : FI := FIs s_l02EntryBytes.sA (List Int) (fun t => s_l02EntryBytes t.1.1 t.1.2.1 t.1.2.2.1) s_l02EntryBytes.out s_l02EntryBytes.ps
def s_l02EntryBytes.E : Env := ⟨tt, lkF [(104, s_l02Four.fi)], 20, 0, [], []⟩
theorem s_l02EntryBytes.hok (hE : EOk Try.prog (s_l02EntryBytes.E)) : HintOk Try.prog s_l02EntryBytes.E (bodyOf Try.f55) (.a) := HintOk.n1 (Q := True) (by kernel_rfl) trivial
theorem s_l02EntryBytes.hE : EOk Try.prog (s_l02EntryBytes.E) := EOk.of ttOk (⟨s_l02Four.fok, trivial⟩)
theorem s_l02EntryBytes.fok : FOk Try.prog 55 s_l02EntryBytes.fi :=
  fokS (E := s_l02EntryBytes.E) (wy := ⟨[[some ((.int .u8), true)]], [[]], []⟩) (h := (fun gs => .a)) (G := fun t g => s_l02EntryBytes.F (fun y0 => g y0) t.1.1 t.1.2.1 t.1.2.2.1) (by kernel_rfl) s_l02EntryBytes.hE Try.func55 (by kernel_rfl) rfl (Nat.le_refl _) (fun t => HintOk.n1 (by kernel_rfl) (s_l02EntryBytes.hok s_l02EntryBytes.hE)) (fun t g => s_l02EntryBytes_nat g t.1.1 t.1.2.1 t.1.2.2.1) (fun t => by kernel_rfl)
/-! loop.example_g00220_spec.EntryBytes -/
def s_EntryBytes.F {R : Type} (kk : List Int → Int → Option R) (e_Term : Int) (e_Kind : Int) (e_Data : ByteArray) : Option R :=
  (s_l02Entry e_Term e_Kind e_Data).bind fun r =>
  cond (!r) (kk ([] : List Int) (1 : Int)) (
    (s_l02EntryBytes e_Term e_Kind e_Data).bind fun r1 =>
    kk r1 (0 : Int))
theorem s_EntryBytes.F_nat {R S : Type} (g : R → Option S) (kk : List Int → Int → Option R) (e_Term : Int) (e_Kind : Int) (e_Data : ByteArray) : s_EntryBytes.F (fun y0 y1 => (kk y0 y1).bind g) e_Term e_Kind e_Data = (s_EntryBytes.F kk e_Term e_Kind e_Data).bind g := by
  simp only [s_EntryBytes.F, grd_bind, cnd_bind, bnd_bind, non_bind]
def s_EntryBytes (e_Term : Int) (e_Kind : Int) (e_Data : ByteArray) : Option (List Int × Int) := s_EntryBytes.F (fun y0 y1 => some (y0, y1)) e_Term e_Kind e_Data
theorem s_EntryBytes_nat {S : Type} (g : (List Int × Int) → Option S) (e_Term : Int) (e_Kind : Int) (e_Data : ByteArray) : s_EntryBytes.F (fun y0 y1 => g (y0, y1)) e_Term e_Kind e_Data = (s_EntryBytes e_Term e_Kind e_Data).bind g := s_EntryBytes.F_nat g (fun y0 y1 => some (y0, y1)) e_Term e_Kind e_Data
def s_EntryBytes.out : (List Int × Int) → CRes := fun a => ⟨encL SV.enc [.one (.own [] (.int .u8) true), .one (.int .i64)] (a.1, a.2, ()), [encL SC.enc [] ()]⟩
def s_EntryBytes.ps : List PS := [.val [none, none, none]]
def s_EntryBytes.sA : List SA := [.v (.agg [.int .i64, .int .i64, .str])]
def s_EntryBytes.fi : FI := FIs s_EntryBytes.sA (List Int × Int) (fun t => s_EntryBytes t.1.1 t.1.2.1 t.1.2.2.1) s_EntryBytes.out s_EntryBytes.ps
def s_EntryBytes.E : Env := ⟨tt, lkF [(54, s_l02Entry.fi), (55, s_l02EntryBytes.fi)], 10, 0, [], []⟩
theorem s_EntryBytes.hok (hE : EOk Try.prog (s_EntryBytes.E)) : HintOk Try.prog s_EntryBytes.E (bodyOf Try.f15) (.a) := HintOk.n1 (Q := True) (by kernel_rfl) trivial
theorem s_EntryBytes.hE : EOk Try.prog (s_EntryBytes.E) := EOk.of ttOk (⟨s_l02Entry.fok, ⟨s_l02EntryBytes.fok, trivial⟩⟩)
theorem s_EntryBytes.fok : FOk Try.prog 15 s_EntryBytes.fi :=
  fokS (E := s_EntryBytes.E) (wy := ⟨[[some ((.int .u8), true)], [none]], [[]], []⟩) (h := (fun gs => .a)) (G := fun t g => s_EntryBytes.F (fun y0 y1 => g (y0, y1)) t.1.1 t.1.2.1 t.1.2.2.1) (by kernel_rfl) s_EntryBytes.hE Try.func15 (by kernel_rfl) rfl (Nat.le_refl _) (fun t => HintOk.n1 (by kernel_rfl) (s_EntryBytes.hok s_EntryBytes.hE)) (fun t g => s_EntryBytes_nat g t.1.1 t.1.2.1 t.1.2.2.1) (fun t => by kernel_rfl)
/-! loop.example_g00220_impl.readEntry -/
def i_readEntry.F {R : Type} (kk : Int → Int → ByteArray → Bool → Option R) (s : ByteArray) : Option R :=
  (i_reader_number s false (4 : Int)).bind fun r =>
  (i_reader_number r.2.1 r.2.2 (1 : Int)).bind fun r1 =>
  (i_reader_counted r1.2.1 r1.2.2).bind fun r2 =>
  cond (!r2.2.2) (
    cond (sEq r2.2.1 ByteArray.empty) (
      (i_entryOK r.1 r1.1 r2.1).bind fun r3 =>
      kk r.1 r1.1 r2.1 r3) (kk r.1 r1.1 r2.1 false)) (kk r.1 r1.1 r2.1 false)
theorem i_readEntry.F_nat {R S : Type} (g : R → Option S) (kk : Int → Int → ByteArray → Bool → Option R) (s : ByteArray) : i_readEntry.F (fun y0 y1 y2 y3 => (kk y0 y1 y2 y3).bind g) s = (i_readEntry.F kk s).bind g := by
  simp only [i_readEntry.F, grd_bind, cnd_bind, bnd_bind, non_bind]
def i_readEntry (s : ByteArray) : Option (Int × Int × ByteArray × Bool) := i_readEntry.F (fun y0 y1 y2 y3 => some (y0, y1, y2, y3)) s
theorem i_readEntry_nat {S : Type} (g : (Int × Int × ByteArray × Bool) → Option S) (s : ByteArray) : i_readEntry.F (fun y0 y1 y2 y3 => g (y0, y1, y2, y3)) s = (i_readEntry s).bind g := i_readEntry.F_nat g (fun y0 y1 y2 y3 => some (y0, y1, y2, y3)) s
def i_readEntry.out : (Int × Int × ByteArray × Bool) → CRes := fun a => ⟨encL SV.enc [.agg [.int .i64, .int .i64, .str], .one (.bool)] ((a.1, a.2.1, a.2.2.1, ()), a.2.2.2, ()), [encL SC.enc [] ()]⟩
def i_readEntry.ps : List PS := [.val [none]]
def i_readEntry.sA : List SA := [.v (.one (.str))]
def i_readEntry.fi : FI := FIs i_readEntry.sA (Int × Int × ByteArray × Bool) (fun t => i_readEntry t.1) i_readEntry.out i_readEntry.ps
def i_readEntry.E : Env := ⟨tt, lkF [(52, i_entryOK.fi), (99, i_reader_number.fi), (100, i_reader_counted.fi)], 36, 0, [], []⟩
theorem i_readEntry.hok (hE : EOk Try.prog (i_readEntry.E)) : HintOk Try.prog i_readEntry.E (bodyOf Try.f56) (.a) := HintOk.n1 (Q := True) (by kernel_rfl) trivial
theorem i_readEntry.hE : EOk Try.prog (i_readEntry.E) := EOk.of ttOk (⟨i_entryOK.fok, ⟨i_reader_number.fok, ⟨i_reader_counted.fok, trivial⟩⟩⟩)
theorem i_readEntry.fok : FOk Try.prog 56 i_readEntry.fi :=
  fokS (E := i_readEntry.E) (wy := ⟨[[none, none, none], [none]], [[]], []⟩) (h := (fun gs => .a)) (G := fun t g => i_readEntry.F (fun y0 y1 y2 y3 => g (y0, y1, y2, y3)) t.1) (by kernel_rfl) i_readEntry.hE Try.func56 (by kernel_rfl) rfl (Nat.le_refl _) (fun t => HintOk.n1 (by kernel_rfl) (i_readEntry.hok i_readEntry.hE)) (fun t g => i_readEntry_nat g t.1) (fun t => by kernel_rfl)
/-! loop.example_g00220_impl.ReadEntry -/
def i_ReadEntry.F {R : Type} (kk : Int → Int → ByteArray → Int → Option R) (b : List Int) : Option R :=
  cond (decide ((List.length b : Int) > (65536 : Int))) (kk (0 : Int) (0 : Int) ByteArray.empty (2 : Int)) (
    (i_readEntry (strL b)).bind fun r =>
    cond (!r.2.2.2) (kk (0 : Int) (0 : Int) ByteArray.empty (3 : Int)) (kk r.1 r.2.1 r.2.2.1 (0 : Int)))
theorem i_ReadEntry.F_nat {R S : Type} (g : R → Option S) (kk : Int → Int → ByteArray → Int → Option R) (b : List Int) : i_ReadEntry.F (fun y0 y1 y2 y3 => (kk y0 y1 y2 y3).bind g) b = (i_ReadEntry.F kk b).bind g := by
  simp only [i_ReadEntry.F, grd_bind, cnd_bind, bnd_bind, non_bind]
def i_ReadEntry (b : List Int) : Option (Int × Int × ByteArray × Int) := i_ReadEntry.F (fun y0 y1 y2 y3 => some (y0, y1, y2, y3)) b
theorem i_ReadEntry_nat {S : Type} (g : (Int × Int × ByteArray × Int) → Option S) (b : List Int) : i_ReadEntry.F (fun y0 y1 y2 y3 => g (y0, y1, y2, y3)) b = (i_ReadEntry b).bind g := i_ReadEntry.F_nat g (fun y0 y1 y2 y3 => some (y0, y1, y2, y3)) b
def i_ReadEntry.out : (Int × Int × ByteArray × Int) → CRes := fun a => ⟨encL SV.enc [.agg [.int .i64, .int .i64, .str], .one (.int .i64)] ((a.1, a.2.1, a.2.2.1, ()), a.2.2.2, ()), [encL SC.enc [] ()]⟩
def i_ReadEntry.ps : List PS := [.val [some ((.int .u8), false)]]
def i_ReadEntry.sA : List SA := [.v (.one (.slv [] (.int .u8)))]
def i_ReadEntry.fi : FI := FIs i_ReadEntry.sA (Int × Int × ByteArray × Int) (fun t => i_ReadEntry t.1) i_ReadEntry.out i_ReadEntry.ps
def i_ReadEntry.E : Env := ⟨tt, lkF [(56, i_readEntry.fi)], 20, 0, [], []⟩
theorem i_ReadEntry.hok (hE : EOk Try.prog (i_ReadEntry.E)) : HintOk Try.prog i_ReadEntry.E (bodyOf Try.f16) (.a) := HintOk.n1 (Q := True) (by kernel_rfl) trivial
theorem i_ReadEntry.hE : EOk Try.prog (i_ReadEntry.E) := EOk.of ttOk (⟨i_readEntry.fok, trivial⟩)
theorem i_ReadEntry.fok : FOk Try.prog 16 i_ReadEntry.fi :=
  fokS (E := i_ReadEntry.E) (wy := ⟨[[none, none, none], [none]], [[]], []⟩) (h := (fun gs => .a)) (G := fun t g => i_ReadEntry.F (fun y0 y1 y2 y3 => g (y0, y1, y2, y3)) t.1) (by kernel_rfl) i_ReadEntry.hE Try.func16 (by kernel_rfl) rfl (Nat.le_refl _) (fun t => HintOk.n1 (by kernel_rfl) (i_ReadEntry.hok i_ReadEntry.hE)) (fun t g => i_ReadEntry_nat g t.1) (fun t => by kernel_rfl)
/-! __loop.example_g00220_spec.l02Reader_.number -/
def s_l02Reader_number.l1 {R : Type} (kke0 : Int → List Int → Int → Bool → Option R) (kkr : Int → List Int → Int → Bool → Option R) : Nat → Int → Int → Int → List Int → Int → Bool → Option R
  | 0, _, _, _, _, _, _ => none
  | n + 1, n_, out, i, r, r1, r2 =>
    cond (decide (i < n_)) (
      cond (r2) (kkr (0 : Int) r r1 true) (
        cond (decide (r1 ≥ (List.length r : Int))) (kkr (0 : Int) r r1 true) (
          grd (gIx r1 (List.length r)) <|
          s_l02Reader_number.l1 kke0 kkr n n_ (IntKind.wrap .i64 ((IntKind.wrap .i64 (out * (256 : Int))) + (IntKind.wrap .i64 (rdE (.int .u8 : Kd) r (Int.toNat r1))))) (IntKind.wrap .i64 (i + (1 : Int))) r (IntKind.wrap .i64 (r1 + (1 : Int))) r2))) (kke0 out r r1 r2)
theorem s_l02Reader_number.l1_nat {R S : Type} (g : R → Option S) (kke0 : Int → List Int → Int → Bool → Option R) (kkr : Int → List Int → Int → Bool → Option R) : ∀ (n : Nat) (n_ : Int) (out : Int) (i : Int) (r : List Int) (r1 : Int) (r2 : Bool), s_l02Reader_number.l1 (fun y0 y1 y2 y3 => (kke0 y0 y1 y2 y3).bind g) (fun y0 y1 y2 y3 => (kkr y0 y1 y2 y3).bind g) n n_ out i r r1 r2 = (s_l02Reader_number.l1 kke0 kkr n n_ out i r r1 r2).bind g := by
  intro n
  induction n with
  | zero => intros; rfl
  | succ n ih => intros; simp only [s_l02Reader_number.l1, grd_bind, cnd_bind, bnd_bind, non_bind, ih]
def s_l02Reader_number.F {R : Type} (kk : Int → List Int → Int → Bool → Option R) (r_b : List Int) (r_at : Int) (r_bad : Bool) (n_ : Int) : Option R :=
  s_l02Reader_number.l1 (fun out r r1 r2 => kk out r r1 r2) (fun i r3 r4 r5 => kk i r3 r4 r5) fuel n_ (0 : Int) (0 : Int) r_b r_at r_bad
theorem s_l02Reader_number.F_nat {R S : Type} (g : R → Option S) (kk : Int → List Int → Int → Bool → Option R) (r_b : List Int) (r_at : Int) (r_bad : Bool) (n_ : Int) : s_l02Reader_number.F (fun y0 y1 y2 y3 => (kk y0 y1 y2 y3).bind g) r_b r_at r_bad n_ = (s_l02Reader_number.F kk r_b r_at r_bad n_).bind g := by
  simp only [s_l02Reader_number.F, grd_bind, cnd_bind, bnd_bind, non_bind, ← s_l02Reader_number.l1_nat]
def s_l02Reader_number (r_b : List Int) (r_at : Int) (r_bad : Bool) (n_ : Int) : Option (Int × List Int × Int × Bool) := s_l02Reader_number.F (fun y0 y1 y2 y3 => some (y0, y1, y2, y3)) r_b r_at r_bad n_
theorem s_l02Reader_number_nat {S : Type} (g : (Int × List Int × Int × Bool) → Option S) (r_b : List Int) (r_at : Int) (r_bad : Bool) (n_ : Int) : s_l02Reader_number.F (fun y0 y1 y2 y3 => g (y0, y1, y2, y3)) r_b r_at r_bad n_ = (s_l02Reader_number r_b r_at r_bad n_).bind g := s_l02Reader_number.F_nat g (fun y0 y1 y2 y3 => some (y0, y1, y2, y3)) r_b r_at r_bad n_
def s_l02Reader_number.out : (Int × List Int × Int × Bool) → CRes := fun a => ⟨encL SV.enc [.one (.int .i64)] (a.1, ()), [encL SC.enc [.slv [1] (.int .u8), .int .i64, .bool] (a.2.1, a.2.2.1, a.2.2.2, ()), encL SC.enc [] ()]⟩
def s_l02Reader_number.ps : List PS := [.ptr [some ((.int .u8), false), none, none], .val [none]]
def s_l02Reader_number.sA : List SA := [.ptr [.slv [] (.int .u8), .int .i64, .bool], .v (.one (.int .i64))]
def s_l02Reader_number.fi : FI := FIs s_l02Reader_number.sA (Int × List Int × Int × Bool) (fun t => s_l02Reader_number t.1.1 t.1.2.1 t.1.2.2.1 t.2.1) s_l02Reader_number.out s_l02Reader_number.ps
def s_l02Reader_number.E : Env := ⟨tt, lkF [], 53, 1, [], []⟩
def s_l02Reader_number.sh1 : SK := ⟨[.v (.one (.bptr 0 0)), .v (.one (.int .i64)), .v (.one (.int .i64)), .v (.one (.int .i64))], [.box [.slv [1] (.int .u8), .int .i64, .bool]]⟩
def s_l02Reader_number.sh1e0 : SK := ⟨[.v (.one (.bptr 0 0)), .v (.one (.int .i64))], [.box [.slv [1] (.int .u8), .int .i64, .bool]]⟩
def s_l02Reader_number.sh1r : SK := ⟨[.v (.one (.bptr 0 0)), .v (.one (.int .i64))], [.box [.slv [1] (.int .u8), .int .i64, .bool]]⟩
def s_l02Reader_number.ko1 : Ex → List CastAt × List Nat
  | .nrm => ([], [])
  | .ret => ([], [0, 4])
  | .ext i => cond (Nat.beq i 0) ([], [0, 5]) ([], [])
def s_l02Reader_number.G1 (n : Nat) (R : Type) (t : s_l02Reader_number.sh1.T) (K : Ex → Kp → Option R) : Option R := s_l02Reader_number.l1 (fun y0 y1 y2 y3 => K (.ext 0) (SK.enc s_l02Reader_number.sh1e0 (((), y0, ()), ((y1, y2, y3, ()), ())))) (fun y0 y1 y2 y3 => K .ret (SK.enc s_l02Reader_number.sh1r (((), y0, ()), ((y1, y2, y3, ()), ())))) n t.1.2.1 t.1.2.2.1 t.1.2.2.2.1 t.2.1.1 t.2.1.2.1 t.2.1.2.2.1
def s_l02Reader_number.S1 : Sum := ⟨([], [0, 1, 5, 6]), sumF s_l02Reader_number.sh1 (s_l02Reader_number.G1 fuel), s_l02Reader_number.ko1⟩
theorem s_l02Reader_number.ok1 (hE : EOk Try.prog (s_l02Reader_number.E)) : SumOk Try.prog s_l02Reader_number.E (cB (cR (cL (cR (cR (bodyOf Try.f105)))))) (s_l02Reader_number.S1) := by
  have hh : HintOk Try.prog s_l02Reader_number.E (cB (cB (cR (cL (cR (cR (bodyOf Try.f105))))))) (.a) := HintOk.n1 (Q := True) (by kernel_rfl) trivial
  have h := loopS (kin := ([], [0, 1, 5, 6])) (kout := s_l02Reader_number.ko1) (sh := s_l02Reader_number.sh1) (F := s_l02Reader_number.G1) (ops_ok (hE.gv _)) (by kernel_rfl) hh (fun _ _ _ => rfl) (fun n R t K => by kernel_rfl) fuel
  exact HintOk.n1 (c := (cB (cR (cL (cR (cR (bodyOf Try.f105))))))) (h := .s (s_l02Reader_number.S1)) (P := Try.prog) (E := s_l02Reader_number.E) (by kernel_rfl) h
theorem s_l02Reader_number.hok (hE : EOk Try.prog (s_l02Reader_number.E)) : HintOk Try.prog s_l02Reader_number.E (bodyOf Try.f105) (.n (.a) (.n (.a) (.n (.n (.a) (.b (.s (s_l02Reader_number.S1)))) (.a)))) := HintOk.n1 (Q := (True) ∧ ((True) ∧ (((True) ∧ (SumOk Try.prog s_l02Reader_number.E (cB (cR (cL (cR (cR (bodyOf Try.f105)))))) (s_l02Reader_number.S1))) ∧ (True)))) (by kernel_rfl) ⟨trivial, ⟨trivial, ⟨⟨trivial, (s_l02Reader_number.ok1 hE)⟩, trivial⟩⟩⟩
theorem s_l02Reader_number.hE : EOk Try.prog (s_l02Reader_number.E) := EOk.of ttOk (trivial)
theorem s_l02Reader_number.fok : FOk Try.prog 105 s_l02Reader_number.fi :=
  fokS (E := s_l02Reader_number.E) (wy := ⟨[[none]], [[some ((.int .u8), false), none, none], []], []⟩) (h := (fun gs => .n (.a) (.n (.a) (.n (.n (.a) (.b (.s (s_l02Reader_number.S1)))) (.a))))) (G := fun t g => s_l02Reader_number.F (fun y0 y1 y2 y3 => g (y0, y1, y2, y3)) t.1.1 t.1.2.1 t.1.2.2.1 t.2.1) (by kernel_rfl) s_l02Reader_number.hE Try.func105 (by kernel_rfl) rfl (Nat.le_refl _) (fun t => HintOk.n1 (by kernel_rfl) (s_l02Reader_number.hok s_l02Reader_number.hE)) (fun t g => s_l02Reader_number_nat g t.1.1 t.1.2.1 t.1.2.2.1 t.2.1) (fun t => by kernel_rfl)
/-! __loop.example_g00220_spec.l02Reader_.text -/
def s_l02Reader_text.F {R : Type} (kk : ByteArray → List Int → Int → Bool → Option R) (r_b : List Int) (r_at : Int) (r_bad : Bool) (n_ : Int) : Option R :=
  cond (r_bad) (kk ByteArray.empty r_b r_at true) (
    cond (decide (n_ < (0 : Int))) (kk ByteArray.empty r_b r_at true) (
      cond (decide ((IntKind.wrap .i64 (r_at + n_)) > (List.length r_b : Int))) (kk ByteArray.empty r_b r_at true) (
        grd (gSl (IntKind.wrap .i64 ((IntKind.wrap .i64 (r_at + n_)) - n_)) (IntKind.wrap .i64 (r_at + n_)) (List.length r_b)) <|
        kk (strL (sub r_b (IntKind.wrap .i64 ((IntKind.wrap .i64 (r_at + n_)) - n_)) (IntKind.wrap .i64 (r_at + n_)))) r_b (IntKind.wrap .i64 (r_at + n_)) r_bad)))
theorem s_l02Reader_text.F_nat {R S : Type} (g : R → Option S) (kk : ByteArray → List Int → Int → Bool → Option R) (r_b : List Int) (r_at : Int) (r_bad : Bool) (n_ : Int) : s_l02Reader_text.F (fun y0 y1 y2 y3 => (kk y0 y1 y2 y3).bind g) r_b r_at r_bad n_ = (s_l02Reader_text.F kk r_b r_at r_bad n_).bind g := by
  simp only [s_l02Reader_text.F, grd_bind, cnd_bind, bnd_bind, non_bind]
def s_l02Reader_text (r_b : List Int) (r_at : Int) (r_bad : Bool) (n_ : Int) : Option (ByteArray × List Int × Int × Bool) := s_l02Reader_text.F (fun y0 y1 y2 y3 => some (y0, y1, y2, y3)) r_b r_at r_bad n_
theorem s_l02Reader_text_nat {S : Type} (g : (ByteArray × List Int × Int × Bool) → Option S) (r_b : List Int) (r_at : Int) (r_bad : Bool) (n_ : Int) : s_l02Reader_text.F (fun y0 y1 y2 y3 => g (y0, y1, y2, y3)) r_b r_at r_bad n_ = (s_l02Reader_text r_b r_at r_bad n_).bind g := s_l02Reader_text.F_nat g (fun y0 y1 y2 y3 => some (y0, y1, y2, y3)) r_b r_at r_bad n_
def s_l02Reader_text.out : (ByteArray × List Int × Int × Bool) → CRes := fun a => ⟨encL SV.enc [.one (.str)] (a.1, ()), [encL SC.enc [.slv [1] (.int .u8), .int .i64, .bool] (a.2.1, a.2.2.1, a.2.2.2, ()), encL SC.enc [] ()]⟩
def s_l02Reader_text.ps : List PS := [.ptr [some ((.int .u8), false), none, none], .val [none]]
def s_l02Reader_text.sA : List SA := [.ptr [.slv [] (.int .u8), .int .i64, .bool], .v (.one (.int .i64))]
def s_l02Reader_text.fi : FI := FIs s_l02Reader_text.sA (ByteArray × List Int × Int × Bool) (fun t => s_l02Reader_text t.1.1 t.1.2.1 t.1.2.2.1 t.2.1) s_l02Reader_text.out s_l02Reader_text.ps
def s_l02Reader_text.E : Env := ⟨tt, lkF [], 54, 1, [], []⟩
theorem s_l02Reader_text.hok (hE : EOk Try.prog (s_l02Reader_text.E)) : HintOk Try.prog s_l02Reader_text.E (bodyOf Try.f106) (.a) := HintOk.n1 (Q := True) (by kernel_rfl) trivial
theorem s_l02Reader_text.hE : EOk Try.prog (s_l02Reader_text.E) := EOk.of ttOk (trivial)
theorem s_l02Reader_text.fok : FOk Try.prog 106 s_l02Reader_text.fi :=
  fokS (E := s_l02Reader_text.E) (wy := ⟨[[none]], [[some ((.int .u8), false), none, none], []], []⟩) (h := (fun gs => .a)) (G := fun t g => s_l02Reader_text.F (fun y0 y1 y2 y3 => g (y0, y1, y2, y3)) t.1.1 t.1.2.1 t.1.2.2.1 t.2.1) (by kernel_rfl) s_l02Reader_text.hE Try.func106 (by kernel_rfl) rfl (Nat.le_refl _) (fun t => HintOk.n1 (by kernel_rfl) (s_l02Reader_text.hok s_l02Reader_text.hE)) (fun t g => s_l02Reader_text_nat g t.1.1 t.1.2.1 t.1.2.2.1 t.2.1) (fun t => by kernel_rfl)
/-! loop.example_g00220_spec.l02Read -/
def s_l02Read.F {R : Type} (kk : Int → Int → Int → ByteArray → ByteArray → Bool → Option R) (b : List Int) : Option R :=
  (s_l02Reader_number b (0 : Int) false (1 : Int)).bind fun r =>
  (s_l02Reader_number r.2.1 r.2.2.1 r.2.2.2 (2 : Int)).bind fun r1 =>
  (s_l02Reader_number r1.2.1 r1.2.2.1 r1.2.2.2 (2 : Int)).bind fun r2 =>
  (s_l02Reader_number r2.2.1 r2.2.2.1 r2.2.2.2 (1 : Int)).bind fun r3 =>
  (s_l02Reader_text r3.2.1 r3.2.2.1 r3.2.2.2 r3.1).bind fun r4 =>
  (s_l02Reader_number r4.2.1 r4.2.2.1 r4.2.2.2 (1 : Int)).bind fun r5 =>
  (s_l02Reader_text r5.2.1 r5.2.2.1 r5.2.2.2 r5.1).bind fun r6 =>
  cond (!r6.2.2.2) (
    cond (r6.2.2.1 == (List.length b : Int)) (
      (s_CommandOK r.1 r1.1 r2.1 r4.1 r6.1).bind fun r7 =>
      kk r.1 r1.1 r2.1 r4.1 r6.1 r7) (kk r.1 r1.1 r2.1 r4.1 r6.1 false)) (kk r.1 r1.1 r2.1 r4.1 r6.1 false)
theorem s_l02Read.F_nat {R S : Type} (g : R → Option S) (kk : Int → Int → Int → ByteArray → ByteArray → Bool → Option R) (b : List Int) : s_l02Read.F (fun y0 y1 y2 y3 y4 y5 => (kk y0 y1 y2 y3 y4 y5).bind g) b = (s_l02Read.F kk b).bind g := by
  simp only [s_l02Read.F, grd_bind, cnd_bind, bnd_bind, non_bind]
def s_l02Read (b : List Int) : Option (Int × Int × Int × ByteArray × ByteArray × Bool) := s_l02Read.F (fun y0 y1 y2 y3 y4 y5 => some (y0, y1, y2, y3, y4, y5)) b
theorem s_l02Read_nat {S : Type} (g : (Int × Int × Int × ByteArray × ByteArray × Bool) → Option S) (b : List Int) : s_l02Read.F (fun y0 y1 y2 y3 y4 y5 => g (y0, y1, y2, y3, y4, y5)) b = (s_l02Read b).bind g := s_l02Read.F_nat g (fun y0 y1 y2 y3 y4 y5 => some (y0, y1, y2, y3, y4, y5)) b
def s_l02Read.out : (Int × Int × Int × ByteArray × ByteArray × Bool) → CRes := fun a => ⟨encL SV.enc [.agg [.int .i64, .int .i64, .int .i64, .str, .str], .one (.bool)] ((a.1, a.2.1, a.2.2.1, a.2.2.2.1, a.2.2.2.2.1, ()), a.2.2.2.2.2, ()), [encL SC.enc [] ()]⟩
def s_l02Read.ps : List PS := [.val [some ((.int .u8), false)]]
def s_l02Read.sA : List SA := [.v (.one (.slv [] (.int .u8)))]
def s_l02Read.fi : FI := FIs s_l02Read.sA (Int × Int × Int × ByteArray × ByteArray × Bool) (fun t => s_l02Read t.1) s_l02Read.out s_l02Read.ps
def s_l02Read.E : Env := ⟨tt, lkF [(48, s_CommandOK.fi), (105, s_l02Reader_number.fi), (106, s_l02Reader_text.fi)], 45, 0, [], []⟩
theorem s_l02Read.hok (hE : EOk Try.prog (s_l02Read.E)) : HintOk Try.prog s_l02Read.E (bodyOf Try.f60) (.a) := HintOk.n1 (Q := True) (by kernel_rfl) trivial
theorem s_l02Read.hE : EOk Try.prog (s_l02Read.E) := EOk.of ttOk (⟨s_CommandOK.fok, ⟨s_l02Reader_number.fok, ⟨s_l02Reader_text.fok, trivial⟩⟩⟩)
theorem s_l02Read.fok : FOk Try.prog 60 s_l02Read.fi :=
  fokS (E := s_l02Read.E) (wy := ⟨[[none, none, none, none, none], [none]], [[]], []⟩) (h := (fun gs => .a)) (G := fun t g => s_l02Read.F (fun y0 y1 y2 y3 y4 y5 => g (y0, y1, y2, y3, y4, y5)) t.1) (by kernel_rfl) s_l02Read.hE Try.func60 (by kernel_rfl) rfl (Nat.le_refl _) (fun t => HintOk.n1 (by kernel_rfl) (s_l02Read.hok s_l02Read.hE)) (fun t g => s_l02Read_nat g t.1) (fun t => by kernel_rfl)
/-! loop.example_g00220_spec.ReadCommand -/
def s_ReadCommand.F {R : Type} (kk : Int → Int → Int → ByteArray → ByteArray → Int → Option R) (b : List Int) : Option R :=
  cond (decide ((List.length b : Int) > (65536 : Int))) (kk (0 : Int) (0 : Int) (0 : Int) ByteArray.empty ByteArray.empty (2 : Int)) (
    (s_l02Read b).bind fun r =>
    cond (!r.2.2.2.2.2) (kk (0 : Int) (0 : Int) (0 : Int) ByteArray.empty ByteArray.empty (3 : Int)) (kk r.1 r.2.1 r.2.2.1 r.2.2.2.1 r.2.2.2.2.1 (0 : Int)))
theorem s_ReadCommand.F_nat {R S : Type} (g : R → Option S) (kk : Int → Int → Int → ByteArray → ByteArray → Int → Option R) (b : List Int) : s_ReadCommand.F (fun y0 y1 y2 y3 y4 y5 => (kk y0 y1 y2 y3 y4 y5).bind g) b = (s_ReadCommand.F kk b).bind g := by
  simp only [s_ReadCommand.F, grd_bind, cnd_bind, bnd_bind, non_bind]
def s_ReadCommand (b : List Int) : Option (Int × Int × Int × ByteArray × ByteArray × Int) := s_ReadCommand.F (fun y0 y1 y2 y3 y4 y5 => some (y0, y1, y2, y3, y4, y5)) b
theorem s_ReadCommand_nat {S : Type} (g : (Int × Int × Int × ByteArray × ByteArray × Int) → Option S) (b : List Int) : s_ReadCommand.F (fun y0 y1 y2 y3 y4 y5 => g (y0, y1, y2, y3, y4, y5)) b = (s_ReadCommand b).bind g := s_ReadCommand.F_nat g (fun y0 y1 y2 y3 y4 y5 => some (y0, y1, y2, y3, y4, y5)) b
def s_ReadCommand.out : (Int × Int × Int × ByteArray × ByteArray × Int) → CRes := fun a => ⟨encL SV.enc [.agg [.int .i64, .int .i64, .int .i64, .str, .str], .one (.int .i64)] ((a.1, a.2.1, a.2.2.1, a.2.2.2.1, a.2.2.2.2.1, ()), a.2.2.2.2.2, ()), [encL SC.enc [] ()]⟩
def s_ReadCommand.ps : List PS := [.val [some ((.int .u8), false)]]
def s_ReadCommand.sA : List SA := [.v (.one (.slv [] (.int .u8)))]
def s_ReadCommand.fi : FI := FIs s_ReadCommand.sA (Int × Int × Int × ByteArray × ByteArray × Int) (fun t => s_ReadCommand t.1) s_ReadCommand.out s_ReadCommand.ps
def s_ReadCommand.E : Env := ⟨tt, lkF [(60, s_l02Read.fi)], 19, 0, [], []⟩
theorem s_ReadCommand.hok (hE : EOk Try.prog (s_ReadCommand.E)) : HintOk Try.prog s_ReadCommand.E (bodyOf Try.f18) (.a) := HintOk.n1 (Q := True) (by kernel_rfl) trivial
theorem s_ReadCommand.hE : EOk Try.prog (s_ReadCommand.E) := EOk.of ttOk (⟨s_l02Read.fok, trivial⟩)
theorem s_ReadCommand.fok : FOk Try.prog 18 s_ReadCommand.fi :=
  fokS (E := s_ReadCommand.E) (wy := ⟨[[none, none, none, none, none], [none]], [[]], []⟩) (h := (fun gs => .a)) (G := fun t g => s_ReadCommand.F (fun y0 y1 y2 y3 y4 y5 => g (y0, y1, y2, y3, y4, y5)) t.1) (by kernel_rfl) s_ReadCommand.hE Try.func18 (by kernel_rfl) rfl (Nat.le_refl _) (fun t => HintOk.n1 (by kernel_rfl) (s_ReadCommand.hok s_ReadCommand.hE)) (fun t g => s_ReadCommand_nat g t.1) (fun t => by kernel_rfl)
/-! loop.example_g00220_laws.FnCommands -/
def l_FnCommands.F {R : Type} (kk : Bool → Option R) (code : List Int) : Option R :=
  cond (decide ((List.length code : Int) > (1048576 : Int))) (kk true) (
    (s_CommandOf code).bind fun r =>
    (i_CommandBytes r.1 r.2.1 r.2.2.1 r.2.2.2.1 r.2.2.2.2).bind fun r1 =>
    (s_CommandBytes r.1 r.2.1 r.2.2.1 r.2.2.2.1 r.2.2.2.2).bind fun r2 =>
    (i_ReadCommand r1.1).bind fun r3 =>
    (s_EntryOf code).bind fun r4 =>
    (i_EntryBytes r4.1 r4.2.1 r4.2.2).bind fun r5 =>
    (s_EntryBytes r4.1 r4.2.1 r4.2.2).bind fun r6 =>
    (i_ReadEntry r5.1).bind fun r7 =>
    cond (r1.2 != (0 : Int)) (kk false) (
      cond (!(sEq (strL r1.1) (strL r2.1))) (kk false) (
        cond (r3.2.2.2.2.2 != (0 : Int)) (kk false) (
          cond (!((r3.1 == r.1) && ((r3.2.1 == r.2.1) && ((r3.2.2.1 == r.2.2.1) && ((sEq r3.2.2.2.1 r.2.2.2.1) && (sEq r3.2.2.2.2.1 r.2.2.2.2)))))) (kk false) (
            (i_CommandOK r.1 r.2.1 r.2.2.1 r.2.2.2.1 r.2.2.2.2).bind fun r8 =>
            cond (!r8) (kk false) (
              cond (r5.2 != (0 : Int)) (kk false) (
                cond (!(sEq (strL r5.1) (strL r6.1))) (kk false) (
                  cond (r7.2.2.2 != (0 : Int)) (kk false) (
                    cond (!((r7.1 == r4.1) && ((r7.2.1 == r4.2.1) && (sEq r7.2.2.1 r4.2.2)))) (kk false) (
                      (i_ReadCommand code).bind fun r9 =>
                      (s_ReadCommand code).bind fun r10 =>
                      cond (r9.2.2.2.2.2 != r10.2.2.2.2.2) (kk false) (
                        cond (r9.2.2.2.2.2 == (0 : Int)) (
                          (i_CommandBytes r9.1 r9.2.1 r9.2.2.1 r9.2.2.2.1 r9.2.2.2.2.1).bind fun r11 =>
                          cond (r11.2 == (0 : Int)) (kk (sEq (strL r11.1) (strL code))) (kk false)) (kk true))))))))))))
theorem l_FnCommands.F_nat {R S : Type} (g : R → Option S) (kk : Bool → Option R) (code : List Int) : l_FnCommands.F (fun y0 => (kk y0).bind g) code = (l_FnCommands.F kk code).bind g := by
  simp only [l_FnCommands.F, grd_bind, cnd_bind, bnd_bind, non_bind]
def l_FnCommands (code : List Int) : Option Bool := l_FnCommands.F (fun y0 => some y0) code
theorem l_FnCommands_nat {S : Type} (g : Bool → Option S) (code : List Int) : l_FnCommands.F (fun y0 => g y0) code = (l_FnCommands code).bind g := l_FnCommands.F_nat g (fun y0 => some y0) code
def l_FnCommands.out : Bool → CRes := fun a => ⟨encL SV.enc [.one (.bool)] (a, ()), [encL SC.enc [] ()]⟩
def l_FnCommands.ps : List PS := [.val [some ((.int .u8), false)]]
def l_FnCommands.sA : List SA := [.v (.one (.slv [] (.int .u8)))]
def l_FnCommands.fi : FI := FIs l_FnCommands.sA (Bool) (fun t => l_FnCommands t.1) l_FnCommands.out l_FnCommands.ps
def l_FnCommands.E : Env := ⟨tt, lkF [(9, s_CommandOf.fi), (10, i_CommandBytes.fi), (11, s_CommandBytes.fi), (12, i_ReadCommand.fi), (13, s_EntryOf.fi), (14, i_EntryBytes.fi), (15, s_EntryBytes.fi), (16, i_ReadEntry.fi), (17, i_CommandOK.fi), (18, s_ReadCommand.fi)], 132, 0, [], []⟩
theorem l_FnCommands.hok (hE : EOk Try.prog (l_FnCommands.E)) : HintOk Try.prog l_FnCommands.E (bodyOf Try.f3) (.a) := HintOk.n1 (Q := True) (by kernel_rfl) trivial
theorem l_FnCommands.hE : EOk Try.prog (l_FnCommands.E) := EOk.of ttOk (⟨s_CommandOf.fok, ⟨i_CommandBytes.fok, ⟨s_CommandBytes.fok, ⟨i_ReadCommand.fok, ⟨s_EntryOf.fok, ⟨i_EntryBytes.fok, ⟨s_EntryBytes.fok, ⟨i_ReadEntry.fok, ⟨i_CommandOK.fok, ⟨s_ReadCommand.fok, trivial⟩⟩⟩⟩⟩⟩⟩⟩⟩⟩)
theorem l_FnCommands.fok : FOk Try.prog 3 l_FnCommands.fi :=
  fokS (E := l_FnCommands.E) (wy := ⟨[[none]], [[]], []⟩) (h := (fun gs => .a)) (G := fun t g => l_FnCommands.F (fun y0 => g y0) t.1) (by kernel_rfl) l_FnCommands.hE Try.func3 (by kernel_rfl) rfl (Nat.le_refl _) (fun t => HintOk.n1 (by kernel_rfl) (l_FnCommands.hok l_FnCommands.hE)) (fun t g => l_FnCommands_nat g t.1) (fun t => by kernel_rfl)
/-! loop.example_g00220_spec.l02ReadEntry -/
def s_l02ReadEntry.F {R : Type} (kk : Int → Int → ByteArray → Bool → Option R) (b : List Int) : Option R :=
  (s_l02Reader_number b (0 : Int) false (4 : Int)).bind fun r =>
  (s_l02Reader_number r.2.1 r.2.2.1 r.2.2.2 (1 : Int)).bind fun r1 =>
  (s_l02Reader_number r1.2.1 r1.2.2.1 r1.2.2.2 (1 : Int)).bind fun r2 =>
  (s_l02Reader_text r2.2.1 r2.2.2.1 r2.2.2.2 r2.1).bind fun r3 =>
  cond (!r3.2.2.2) (
    cond (r3.2.2.1 == (List.length b : Int)) (
      (s_l02Entry r.1 r1.1 r3.1).bind fun r4 =>
      kk r.1 r1.1 r3.1 r4) (kk r.1 r1.1 r3.1 false)) (kk r.1 r1.1 r3.1 false)
theorem s_l02ReadEntry.F_nat {R S : Type} (g : R → Option S) (kk : Int → Int → ByteArray → Bool → Option R) (b : List Int) : s_l02ReadEntry.F (fun y0 y1 y2 y3 => (kk y0 y1 y2 y3).bind g) b = (s_l02ReadEntry.F kk b).bind g := by
  simp only [s_l02ReadEntry.F, grd_bind, cnd_bind, bnd_bind, non_bind]
def s_l02ReadEntry (b : List Int) : Option (Int × Int × ByteArray × Bool) := s_l02ReadEntry.F (fun y0 y1 y2 y3 => some (y0, y1, y2, y3)) b
theorem s_l02ReadEntry_nat {S : Type} (g : (Int × Int × ByteArray × Bool) → Option S) (b : List Int) : s_l02ReadEntry.F (fun y0 y1 y2 y3 => g (y0, y1, y2, y3)) b = (s_l02ReadEntry b).bind g := s_l02ReadEntry.F_nat g (fun y0 y1 y2 y3 => some (y0, y1, y2, y3)) b
def s_l02ReadEntry.out : (Int × Int × ByteArray × Bool) → CRes := fun a => ⟨encL SV.enc [.agg [.int .i64, .int .i64, .str], .one (.bool)] ((a.1, a.2.1, a.2.2.1, ()), a.2.2.2, ()), [encL SC.enc [] ()]⟩
def s_l02ReadEntry.ps : List PS := [.val [some ((.int .u8), false)]]
def s_l02ReadEntry.sA : List SA := [.v (.one (.slv [] (.int .u8)))]
def s_l02ReadEntry.fi : FI := FIs s_l02ReadEntry.sA (Int × Int × ByteArray × Bool) (fun t => s_l02ReadEntry t.1) s_l02ReadEntry.out s_l02ReadEntry.ps
def s_l02ReadEntry.E : Env := ⟨tt, lkF [(54, s_l02Entry.fi), (105, s_l02Reader_number.fi), (106, s_l02Reader_text.fi)], 38, 0, [], []⟩
theorem s_l02ReadEntry.hok (hE : EOk Try.prog (s_l02ReadEntry.E)) : HintOk Try.prog s_l02ReadEntry.E (bodyOf Try.f143) (.a) := HintOk.n1 (Q := True) (by kernel_rfl) trivial
theorem s_l02ReadEntry.hE : EOk Try.prog (s_l02ReadEntry.E) := EOk.of ttOk (⟨s_l02Entry.fok, ⟨s_l02Reader_number.fok, ⟨s_l02Reader_text.fok, trivial⟩⟩⟩)
theorem s_l02ReadEntry.fok : FOk Try.prog 143 s_l02ReadEntry.fi :=
  fokS (E := s_l02ReadEntry.E) (wy := ⟨[[none, none, none], [none]], [[]], []⟩) (h := (fun gs => .a)) (G := fun t g => s_l02ReadEntry.F (fun y0 y1 y2 y3 => g (y0, y1, y2, y3)) t.1) (by kernel_rfl) s_l02ReadEntry.hE Try.func143 (by kernel_rfl) rfl (Nat.le_refl _) (fun t => HintOk.n1 (by kernel_rfl) (s_l02ReadEntry.hok s_l02ReadEntry.hE)) (fun t g => s_l02ReadEntry_nat g t.1) (fun t => by kernel_rfl)
/-! loop.example_g00220_spec.l05Fold -/
def s_l05Fold.F {R : Type} (kk : Int → Int → List (El kEntry) → Bool → Option R) (s_Term : Int) (s_Vote : Int) (s_Log : List (El kEntry)) (t_ : ByteArray) : Option R :=
  cond (sEq t_ ByteArray.empty) (kk s_Term s_Vote s_Log false) (
    grd (gIx (0 : Int) (ByteArray.size t_)) <|
    cond ((byteAt t_ (0 : Int)) == (84 : Int)) (
      (s_l02Reader_number (bytesL t_) (1 : Int) false (4 : Int)).bind fun r =>
      (s_l02Reader_number r.2.1 r.2.2.1 r.2.2.2 (1 : Int)).bind fun r1 =>
      cond (!r1.2.2.2) (kk r.1 (IntKind.wrap .i64 (r1.1 - (1 : Int))) s_Log (r1.2.2.1 == (ByteArray.size t_ : Int))) (kk r.1 (IntKind.wrap .i64 (r1.1 - (1 : Int))) s_Log false)) (
      cond ((byteAt t_ (0 : Int)) == (67 : Int)) (
        (s_l02Reader_number (bytesL t_) (1 : Int) false (4 : Int)).bind fun r2 =>
        cond (r2.2.2.2) (kk s_Term s_Vote s_Log false) (
          cond (r2.2.2.1 != (ByteArray.size t_ : Int)) (kk s_Term s_Vote s_Log false) (
            cond (decide (r2.1 > (List.length s_Log : Int))) (kk s_Term s_Vote s_Log false) (
              grd (gSl (0 : Int) r2.1 (List.length s_Log)) <|
              grd (gRm (((List.length ([] : List (El kEntry))) + (List.length (sub s_Log (0 : Int) r2.1))) * 32)) <|
              kk s_Term s_Vote (([] : List (El kEntry)) ++ (sub s_Log (0 : Int) r2.1)) true)))) (
        cond ((byteAt t_ (0 : Int)) == (69 : Int)) (
          grd (gSl (1 : Int) (ByteArray.size t_ : Int) (ByteArray.size t_)) <|
          (s_l02ReadEntry (bytesL (cut t_ (1 : Int) (ByteArray.size t_ : Int)))).bind fun r3 =>
          grd (gRm (((List.length ([] : List (El kEntry))) + (List.length s_Log)) * 32)) <|
          grd (gRm (((List.length (([] : List (El kEntry)) ++ s_Log)) + (List.length [(r3.1, (r3.2.1, r3.2.2.1))])) * 32)) <|
          kk s_Term s_Vote ((([] : List (El kEntry)) ++ s_Log) ++ [(r3.1, (r3.2.1, r3.2.2.1))]) r3.2.2.2) (kk s_Term s_Vote s_Log false))))
theorem s_l05Fold.F_nat {R S : Type} (g : R → Option S) (kk : Int → Int → List (El kEntry) → Bool → Option R) (s_Term : Int) (s_Vote : Int) (s_Log : List (El kEntry)) (t_ : ByteArray) : s_l05Fold.F (fun y0 y1 y2 y3 => (kk y0 y1 y2 y3).bind g) s_Term s_Vote s_Log t_ = (s_l05Fold.F kk s_Term s_Vote s_Log t_).bind g := by
  simp only [s_l05Fold.F, grd_bind, cnd_bind, bnd_bind, non_bind]
def s_l05Fold (s_Term : Int) (s_Vote : Int) (s_Log : List (El kEntry)) (t_ : ByteArray) : Option (Int × Int × List (El kEntry) × Bool) := s_l05Fold.F (fun y0 y1 y2 y3 => some (y0, y1, y2, y3)) s_Term s_Vote s_Log t_
theorem s_l05Fold_nat {S : Type} (g : (Int × Int × List (El kEntry) × Bool) → Option S) (s_Term : Int) (s_Vote : Int) (s_Log : List (El kEntry)) (t_ : ByteArray) : s_l05Fold.F (fun y0 y1 y2 y3 => g (y0, y1, y2, y3)) s_Term s_Vote s_Log t_ = (s_l05Fold s_Term s_Vote s_Log t_).bind g := s_l05Fold.F_nat g (fun y0 y1 y2 y3 => some (y0, y1, y2, y3)) s_Term s_Vote s_Log t_
def s_l05Fold.out : (Int × Int × List (El kEntry) × Bool) → CRes := fun a => ⟨encL SV.enc [.agg [.int .i64, .int .i64, .slv [0, 1] kEntry], .one (.bool)] ((a.1, a.2.1, a.2.2.1, ()), a.2.2.2, ()), [encL SC.enc [] (), encL SC.enc [] ()]⟩
def s_l05Fold.ps : List PS := [.val [none, none, some (kEntry, false)], .val [none]]
def s_l05Fold.sA : List SA := [.v (.agg [.int .i64, .int .i64, .slv [] kEntry]), .v (.one (.str))]
def s_l05Fold.fi : FI := FIs s_l05Fold.sA (Int × Int × List (El kEntry) × Bool) (fun t => s_l05Fold t.1.1 t.1.2.1 t.1.2.2.1 t.2.1) s_l05Fold.out s_l05Fold.ps
def s_l05Fold.E : Env := ⟨tt, lkF [(105, s_l02Reader_number.fi), (143, s_l02ReadEntry.fi)], 96, 0, [], []⟩
theorem s_l05Fold.hok (hE : EOk Try.prog (s_l05Fold.E)) : HintOk Try.prog s_l05Fold.E (bodyOf Try.f107) (.a) := HintOk.n1 (Q := True) (by kernel_rfl) trivial
theorem s_l05Fold.hE : EOk Try.prog (s_l05Fold.E) := EOk.of ttOk (⟨s_l02Reader_number.fok, ⟨s_l02ReadEntry.fok, trivial⟩⟩)
theorem s_l05Fold.fok : FOk Try.prog 107 s_l05Fold.fi :=
  fokS (E := s_l05Fold.E) (wy := ⟨[[none, none, some (kEntry, false)], [none]], [[], []], [⟨4, true, 2, .slv [0, 1] kEntry⟩]⟩) (h := (fun gs => .a)) (G := fun t g => s_l05Fold.F (fun y0 y1 y2 y3 => g (y0, y1, y2, y3)) t.1.1 t.1.2.1 t.1.2.2.1 t.2.1) (by kernel_rfl) s_l05Fold.hE Try.func107 (by kernel_rfl) rfl (Nat.le_refl _) (fun t => HintOk.n1 (by kernel_rfl) (s_l05Fold.hok s_l05Fold.hE)) (fun t g => s_l05Fold_nat g t.1.1 t.1.2.1 t.1.2.2.1 t.2.1) (fun t => by kernel_rfl)
/-! loop.example_g00220_spec.StateOK -/
def s_StateOK.l1 {R : Type} (kke0 : Option R) (kkr : Bool → Option R) : Nat → Int → Int → Int → List (El kEntry) → Option R
  | 0, _, _, _, _ => none
  | n + 1, i, s, s1, s2 =>
    cond (decide (i < (List.length s2 : Int))) (
      grd (gIx i (List.length s2)) <|
      (s_l02Entry ((rdE kEntry s2 (Int.toNat i)).1) ((rdE kEntry s2 (Int.toNat i)).2.1) ((rdE kEntry s2 (Int.toNat i)).2.2)).bind fun r =>
      cond (!r) (kkr false) (
        grd (gIx i (List.length s2)) <|
        cond (decide ((rdE kEntry s2 (Int.toNat i)).1 > s)) (kkr false) (
          cond (decide (i > (0 : Int))) (
            grd (gIx (IntKind.wrap .i64 (i - (1 : Int))) (List.length s2)) <|
            grd (gIx i (List.length s2)) <|
            cond (decide ((rdE kEntry s2 (Int.toNat (IntKind.wrap .i64 (i - (1 : Int))))).1 > (rdE kEntry s2 (Int.toNat i)).1)) (kkr false) (s_StateOK.l1 kke0 kkr n (IntKind.wrap .i64 (i + (1 : Int))) s s1 s2)) (s_StateOK.l1 kke0 kkr n (IntKind.wrap .i64 (i + (1 : Int))) s s1 s2)))) (kke0)
theorem s_StateOK.l1_nat {R S : Type} (g : R → Option S) (kke0 : Option R) (kkr : Bool → Option R) : ∀ (n : Nat) (i : Int) (s : Int) (s1 : Int) (s2 : List (El kEntry)), s_StateOK.l1 (kke0.bind g) (fun y0 => (kkr y0).bind g) n i s s1 s2 = (s_StateOK.l1 kke0 kkr n i s s1 s2).bind g := by
  intro n
  induction n with
  | zero => intros; rfl
  | succ n ih => intros; simp only [s_StateOK.l1, grd_bind, cnd_bind, bnd_bind, non_bind, ih]
def s_StateOK.F {R : Type} (kk : Bool → Option R) (s_Term : Int) (s_Vote : Int) (s_Log : List (El kEntry)) : Option R :=
  (s_l01In s_Term (0 : Int) (1000000 : Int)).bind fun r =>
  cond (!r) (kk false) (
    (s_l01In s_Vote (-1 : Int) (6 : Int)).bind fun r1 =>
    cond (!r1) (kk false) (
      cond (decide ((List.length s_Log : Int) > (60 : Int))) (kk false) (s_StateOK.l1 (kk true) (fun b => kk b) fuel (0 : Int) s_Term s_Vote s_Log)))
theorem s_StateOK.F_nat {R S : Type} (g : R → Option S) (kk : Bool → Option R) (s_Term : Int) (s_Vote : Int) (s_Log : List (El kEntry)) : s_StateOK.F (fun y0 => (kk y0).bind g) s_Term s_Vote s_Log = (s_StateOK.F kk s_Term s_Vote s_Log).bind g := by
  simp only [s_StateOK.F, grd_bind, cnd_bind, bnd_bind, non_bind, ← s_StateOK.l1_nat]
def s_StateOK (s_Term : Int) (s_Vote : Int) (s_Log : List (El kEntry)) : Option Bool := s_StateOK.F (fun y0 => some y0) s_Term s_Vote s_Log
theorem s_StateOK_nat {S : Type} (g : Bool → Option S) (s_Term : Int) (s_Vote : Int) (s_Log : List (El kEntry)) : s_StateOK.F (fun y0 => g y0) s_Term s_Vote s_Log = (s_StateOK s_Term s_Vote s_Log).bind g := s_StateOK.F_nat g (fun y0 => some y0) s_Term s_Vote s_Log
def s_StateOK.out : Bool → CRes := fun a => ⟨encL SV.enc [.one (.bool)] (a, ()), [encL SC.enc [] ()]⟩
def s_StateOK.ps : List PS := [.val [none, none, some (kEntry, false)]]
def s_StateOK.sA : List SA := [.v (.agg [.int .i64, .int .i64, .slv [] kEntry])]
def s_StateOK.fi : FI := FIs s_StateOK.sA (Bool) (fun t => s_StateOK t.1.1 t.1.2.1 t.1.2.2.1) s_StateOK.out s_StateOK.ps
def s_StateOK.E : Env := ⟨tt, lkF [(54, s_l02Entry.fi), (69, s_l01In.fi)], 65, 0, [], []⟩
def s_StateOK.sh1 : SK := ⟨[.v (.one (.bptr 0 0)), .v (.one (.int .i64))], [.box [.int .i64, .int .i64, .slv [1] kEntry]]⟩
def s_StateOK.sh1e0 : SK := ⟨[], []⟩
def s_StateOK.sh1r : SK := ⟨[.v (.one (.bool))], []⟩
def s_StateOK.ko1 : Ex → List CastAt × List Nat
  | .nrm => ([], [])
  | .ret => ([], [2])
  | .ext i => cond (Nat.beq i 0) ([], []) ([], [])
def s_StateOK.G1 (n : Nat) (R : Type) (t : s_StateOK.sh1.T) (K : Ex → Kp → Option R) : Option R := s_StateOK.l1 (K (.ext 0) (SK.enc s_StateOK.sh1e0 ((), ()))) (fun y0 => K .ret (SK.enc s_StateOK.sh1r ((y0, ()), ()))) n t.1.2.1 t.2.1.1 t.2.1.2.1 t.2.1.2.2.1
def s_StateOK.S1 : Sum := ⟨([], [1, 3]), sumF s_StateOK.sh1 (s_StateOK.G1 fuel), s_StateOK.ko1⟩
theorem s_StateOK.ok1 (hE : EOk Try.prog (s_StateOK.E)) : SumOk Try.prog s_StateOK.E (cB (cR (cL (cR (cR (bodyOf Try.f108)))))) (s_StateOK.S1) := by
  have hh : HintOk Try.prog s_StateOK.E (cB (cB (cR (cL (cR (cR (bodyOf Try.f108))))))) (.a) := HintOk.n1 (Q := True) (by kernel_rfl) trivial
  have h := loopS (kin := ([], [1, 3])) (kout := s_StateOK.ko1) (sh := s_StateOK.sh1) (F := s_StateOK.G1) (ops_ok (hE.gv _)) (by kernel_rfl) hh (fun _ _ _ => rfl) (fun n R t K => by kernel_rfl) fuel
  exact HintOk.n1 (c := (cB (cR (cL (cR (cR (bodyOf Try.f108))))))) (h := .s (s_StateOK.S1)) (P := Try.prog) (E := s_StateOK.E) (by kernel_rfl) h
theorem s_StateOK.hok (hE : EOk Try.prog (s_StateOK.E)) : HintOk Try.prog s_StateOK.E (bodyOf Try.f108) (.n (.a) (.n (.a) (.n (.n (.a) (.b (.s (s_StateOK.S1)))) (.a)))) := HintOk.n1 (Q := (True) ∧ ((True) ∧ (((True) ∧ (SumOk Try.prog s_StateOK.E (cB (cR (cL (cR (cR (bodyOf Try.f108)))))) (s_StateOK.S1))) ∧ (True)))) (by kernel_rfl) ⟨trivial, ⟨trivial, ⟨⟨trivial, (s_StateOK.ok1 hE)⟩, trivial⟩⟩⟩
theorem s_StateOK.hE : EOk Try.prog (s_StateOK.E) := EOk.of ttOk (⟨s_l02Entry.fok, ⟨s_l01In.fok, trivial⟩⟩)
theorem s_StateOK.fok : FOk Try.prog 108 s_StateOK.fi :=
  fokS (E := s_StateOK.E) (wy := ⟨[[none]], [[]], []⟩) (h := (fun gs => .n (.a) (.n (.a) (.n (.n (.a) (.b (.s (s_StateOK.S1)))) (.a))))) (G := fun t g => s_StateOK.F (fun y0 => g y0) t.1.1 t.1.2.1 t.1.2.2.1) (by kernel_rfl) s_StateOK.hE Try.func108 (by kernel_rfl) rfl (Nat.le_refl _) (fun t => HintOk.n1 (by kernel_rfl) (s_StateOK.hok s_StateOK.hE)) (fun t g => s_StateOK_nat g t.1.1 t.1.2.1 t.1.2.2.1) (fun t => by kernel_rfl)
/-! loop.example_g00220_spec.l05FoldAll -/
def s_l05FoldAll.l1 {R : Type} (kke0 : Int → Int → Int → Int → List (El kEntry) → Option R) (kkr : Bool → Int → Int → List (El kEntry) → Option R) : Nat → List ByteArray → Int → Int → Int → Int → Int → List (El kEntry) → Option R
  | 0, _, _, _, _, _, _, _ => none
  | n + 1, list, i, i1, i2, s, s1, s2 =>
    cond (decide (i < (List.length list : Int))) (
      grd (gIx i (List.length list)) <|
      (s_l05Fold s s1 s2 (rdE (.str : Kd) list (Int.toNat i))).bind fun r =>
      cond (!r.2.2.2) (kkr false s s1 s2) (
        cond (decide ((List.length r.2.2.1 : Int) > (60 : Int))) (kkr false s s1 s2) (
          s_l05FoldAll.l1 kke0 kkr n list (IntKind.wrap .i64 (i + (1 : Int))) i1 i2 r.1 r.2.1 r.2.2.1))) (kke0 i1 i2 s s1 s2)
theorem s_l05FoldAll.l1_nat {R S : Type} (g : R → Option S) (kke0 : Int → Int → Int → Int → List (El kEntry) → Option R) (kkr : Bool → Int → Int → List (El kEntry) → Option R) : ∀ (n : Nat) (list : List ByteArray) (i : Int) (i1 : Int) (i2 : Int) (s : Int) (s1 : Int) (s2 : List (El kEntry)), s_l05FoldAll.l1 (fun y0 y1 y2 y3 y4 => (kke0 y0 y1 y2 y3 y4).bind g) (fun y0 y1 y2 y3 => (kkr y0 y1 y2 y3).bind g) n list i i1 i2 s s1 s2 = (s_l05FoldAll.l1 kke0 kkr n list i i1 i2 s s1 s2).bind g := by
  intro n
  induction n with
  | zero => intros; rfl
  | succ n ih => intros; simp only [s_l05FoldAll.l1, grd_bind, cnd_bind, bnd_bind, non_bind, ih]
def s_l05FoldAll.F {R : Type} (kk : Int → Int → List (El kEntry) → Bool → Option R) (list : List ByteArray) : Option R :=
  s_l05FoldAll.l1 (fun i i1 s s1 s2 =>
    (s_StateOK s s1 s2).bind fun r =>
    kk s s1 s2 r) (fun b i2 i3 l => kk i2 i3 l b) fuel list (0 : Int) (0 : Int) (0 : Int) (0 : Int) (-1 : Int) ([] : List (El kEntry))
theorem s_l05FoldAll.F_nat {R S : Type} (g : R → Option S) (kk : Int → Int → List (El kEntry) → Bool → Option R) (list : List ByteArray) : s_l05FoldAll.F (fun y0 y1 y2 y3 => (kk y0 y1 y2 y3).bind g) list = (s_l05FoldAll.F kk list).bind g := by
  simp only [s_l05FoldAll.F, grd_bind, cnd_bind, bnd_bind, non_bind, ← s_l05FoldAll.l1_nat]
def s_l05FoldAll (list : List ByteArray) : Option (Int × Int × List (El kEntry) × Bool) := s_l05FoldAll.F (fun y0 y1 y2 y3 => some (y0, y1, y2, y3)) list
theorem s_l05FoldAll_nat {S : Type} (g : (Int × Int × List (El kEntry) × Bool) → Option S) (list : List ByteArray) : s_l05FoldAll.F (fun y0 y1 y2 y3 => g (y0, y1, y2, y3)) list = (s_l05FoldAll list).bind g := s_l05FoldAll.F_nat g (fun y0 y1 y2 y3 => some (y0, y1, y2, y3)) list
def s_l05FoldAll.out : (Int × Int × List (El kEntry) × Bool) → CRes := fun a => ⟨encL SV.enc [.agg [.int .i64, .int .i64, .slv [0] kEntry], .one (.bool)] ((a.1, a.2.1, a.2.2.1, ()), a.2.2.2, ()), [encL SC.enc [] ()]⟩
def s_l05FoldAll.ps : List PS := [.val [some (.str, false)]]
def s_l05FoldAll.sA : List SA := [.v (.one (.slv [] .str))]
def s_l05FoldAll.fi : FI := FIs s_l05FoldAll.sA (Int × Int × List (El kEntry) × Bool) (fun t => s_l05FoldAll t.1) s_l05FoldAll.out s_l05FoldAll.ps
def s_l05FoldAll.E : Env := ⟨tt, lkF [(107, s_l05Fold.fi), (108, s_StateOK.fi)], 38, 0, [], []⟩
def s_l05FoldAll.sh1 : SK := ⟨[.v (.one (.slv [1] .str)), .v (.one (.bptr 0 0)), .v (.one (.bptr 1 0)), .v (.one (.int .i64))], [.box [.int .i64, .int .i64, .nil], .box [.int .i64, .int .i64, .slv [0] kEntry]]⟩
def s_l05FoldAll.sh1e0 : SK := ⟨[.v (.one (.bptr 0 0)), .v (.one (.bptr 1 0))], [.box [.int .i64, .int .i64, .nil], .box [.int .i64, .int .i64, .slv [0] kEntry]]⟩
def s_l05FoldAll.sh1r : SK := ⟨[.v (.one (.bptr 0 0)), .v (.one (.bool))], [.box [.int .i64, .int .i64, .slv [0] kEntry]]⟩
def s_l05FoldAll.ko1 : Ex → List CastAt × List Nat
  | .nrm => ([], [])
  | .ret => ([⟨2, true, 2, .slv [0] kEntry⟩], [2, 3])
  | .ext i => cond (Nat.beq i 0) ([], [2, 4]) ([], [])
def s_l05FoldAll.G1 (n : Nat) (R : Type) (t : s_l05FoldAll.sh1.T) (K : Ex → Kp → Option R) : Option R := s_l05FoldAll.l1 (fun y0 y1 y2 y3 y4 => K (.ext 0) (SK.enc s_l05FoldAll.sh1e0 (((), (), ()), ((y0, y1, (), ()), (y2, y3, y4, ()), ())))) (fun y0 y1 y2 y3 => K .ret (SK.enc s_l05FoldAll.sh1r (((), y0, ()), ((y1, y2, y3, ()), ())))) n t.1.1 t.1.2.2.2.1 t.2.1.1 t.2.1.2.1 t.2.2.1.1 t.2.2.1.2.1 t.2.2.1.2.2.1
def s_l05FoldAll.S1 : Sum := ⟨([⟨4, true, 2, .slv [0] kEntry⟩], [0, 2, 4, 5]), sumF s_l05FoldAll.sh1 (s_l05FoldAll.G1 fuel), s_l05FoldAll.ko1⟩
theorem s_l05FoldAll.ok1 (hE : EOk Try.prog (s_l05FoldAll.E)) : SumOk Try.prog s_l05FoldAll.E (cB (cR (cL (cR (cR (bodyOf Try.f61)))))) (s_l05FoldAll.S1) := by
  have hh : HintOk Try.prog s_l05FoldAll.E (cB (cB (cR (cL (cR (cR (bodyOf Try.f61))))))) (.a) := HintOk.n1 (Q := True) (by kernel_rfl) trivial
  have h := loopS (kin := ([⟨4, true, 2, .slv [0] kEntry⟩], [0, 2, 4, 5])) (kout := s_l05FoldAll.ko1) (sh := s_l05FoldAll.sh1) (F := s_l05FoldAll.G1) (ops_ok (hE.gv _)) (by kernel_rfl) hh (fun _ _ _ => rfl) (fun n R t K => by kernel_rfl) fuel
  exact HintOk.n1 (c := (cB (cR (cL (cR (cR (bodyOf Try.f61))))))) (h := .s (s_l05FoldAll.S1)) (P := Try.prog) (E := s_l05FoldAll.E) (by kernel_rfl) h
theorem s_l05FoldAll.hok (hE : EOk Try.prog (s_l05FoldAll.E)) : HintOk Try.prog s_l05FoldAll.E (bodyOf Try.f61) (.n (.a) (.n (.a) (.n (.n (.a) (.b (.s (s_l05FoldAll.S1)))) (.a)))) := HintOk.n1 (Q := (True) ∧ ((True) ∧ (((True) ∧ (SumOk Try.prog s_l05FoldAll.E (cB (cR (cL (cR (cR (bodyOf Try.f61)))))) (s_l05FoldAll.S1))) ∧ (True)))) (by kernel_rfl) ⟨trivial, ⟨trivial, ⟨⟨trivial, (s_l05FoldAll.ok1 hE)⟩, trivial⟩⟩⟩
theorem s_l05FoldAll.hE : EOk Try.prog (s_l05FoldAll.E) := EOk.of ttOk (⟨s_l05Fold.fok, ⟨s_StateOK.fok, trivial⟩⟩)
theorem s_l05FoldAll.fok : FOk Try.prog 61 s_l05FoldAll.fi :=
  fokS (E := s_l05FoldAll.E) (wy := ⟨[[none, none, some (kEntry, false)], [none]], [[]], []⟩) (h := (fun gs => .n (.a) (.n (.a) (.n (.n (.a) (.b (.s (s_l05FoldAll.S1)))) (.a))))) (G := fun t g => s_l05FoldAll.F (fun y0 y1 y2 y3 => g (y0, y1, y2, y3)) t.1) (by kernel_rfl) s_l05FoldAll.hE Try.func61 (by kernel_rfl) rfl (Nat.le_refl _) (fun t => HintOk.n1 (by kernel_rfl) (s_l05FoldAll.hok s_l05FoldAll.hE)) (fun t g => s_l05FoldAll_nat g t.1) (fun t => by kernel_rfl)
/-! loop.example_g00220_spec.FoldRecords -/
def s_FoldRecords.l1 {R : Type} (kke0 : List ByteArray → Int → Int → Option R) (kkr : Int → Int → Int → Option R) : Nat → List ByteArray → Int → Int → Int → Option R
  | 0, _, _, _, _ => none
  | n + 1, list, i, i1, i2 =>
    cond (decide (i < (List.length list : Int))) (
      grd (gIx i (List.length list)) <|
      cond (decide ((ByteArray.size (rdE (.str : Kd) list (Int.toNat i)) : Int) > (110 : Int))) (kkr (4 : Int) (0 : Int) (0 : Int)) (s_FoldRecords.l1 kke0 kkr n list (IntKind.wrap .i64 (i + (1 : Int))) i1 i2)) (kke0 list i1 i2)
theorem s_FoldRecords.l1_nat {R S : Type} (g : R → Option S) (kke0 : List ByteArray → Int → Int → Option R) (kkr : Int → Int → Int → Option R) : ∀ (n : Nat) (list : List ByteArray) (i : Int) (i1 : Int) (i2 : Int), s_FoldRecords.l1 (fun y0 y1 y2 => (kke0 y0 y1 y2).bind g) (fun y0 y1 y2 => (kkr y0 y1 y2).bind g) n list i i1 i2 = (s_FoldRecords.l1 kke0 kkr n list i i1 i2).bind g := by
  intro n
  induction n with
  | zero => intros; rfl
  | succ n ih => intros; simp only [s_FoldRecords.l1, grd_bind, cnd_bind, bnd_bind, non_bind, ih]
def s_FoldRecords.F {R : Type} (kk : Int → Int → List (El kEntry) → Int → Option R) (list : List ByteArray) : Option R :=
  cond (decide ((List.length list : Int) > (4096 : Int))) (kk (0 : Int) (0 : Int) [] (2 : Int)) (
    s_FoldRecords.l1 (fun list1 i i1 =>
      (s_l05FoldAll list1).bind fun r =>
      cond (!r.2.2.2) (kk (0 : Int) (0 : Int) [] (3 : Int)) (kk r.1 r.2.1 r.2.2.1 (0 : Int))) (fun i2 i3 i4 => kk i3 i4 [] i2) fuel list (0 : Int) (0 : Int) (0 : Int))
theorem s_FoldRecords.F_nat {R S : Type} (g : R → Option S) (kk : Int → Int → List (El kEntry) → Int → Option R) (list : List ByteArray) : s_FoldRecords.F (fun y0 y1 y2 y3 => (kk y0 y1 y2 y3).bind g) list = (s_FoldRecords.F kk list).bind g := by
  simp only [s_FoldRecords.F, grd_bind, cnd_bind, bnd_bind, non_bind, ← s_FoldRecords.l1_nat]
def s_FoldRecords (list : List ByteArray) : Option (Int × Int × List (El kEntry) × Int) := s_FoldRecords.F (fun y0 y1 y2 y3 => some (y0, y1, y2, y3)) list
theorem s_FoldRecords_nat {S : Type} (g : (Int × Int × List (El kEntry) × Int) → Option S) (list : List ByteArray) : s_FoldRecords.F (fun y0 y1 y2 y3 => g (y0, y1, y2, y3)) list = (s_FoldRecords list).bind g := s_FoldRecords.F_nat g (fun y0 y1 y2 y3 => some (y0, y1, y2, y3)) list
def s_FoldRecords.out : (Int × Int × List (El kEntry) × Int) → CRes := fun a => ⟨encL SV.enc [.agg [.int .i64, .int .i64, .slv [0] kEntry], .one (.int .i64)] ((a.1, a.2.1, a.2.2.1, ()), a.2.2.2, ()), [encL SC.enc [] ()]⟩
def s_FoldRecords.ps : List PS := [.val [some (.str, false)]]
def s_FoldRecords.sA : List SA := [.v (.one (.slv [] .str))]
def s_FoldRecords.fi : FI := FIs s_FoldRecords.sA (Int × Int × List (El kEntry) × Int) (fun t => s_FoldRecords t.1) s_FoldRecords.out s_FoldRecords.ps
def s_FoldRecords.E : Env := ⟨tt, lkF [(61, s_l05FoldAll.fi)], 33, 0, [], []⟩
def s_FoldRecords.sh1 : SK := ⟨[.v (.one (.slv [1] .str)), .v (.one (.bptr 0 0)), .v (.one (.int .i64))], [.box [.int .i64, .int .i64, .nil]]⟩
def s_FoldRecords.sh1e0 : SK := ⟨[.v (.one (.slv [1] .str)), .v (.one (.bptr 0 0))], [.box [.int .i64, .int .i64, .nil]]⟩
def s_FoldRecords.sh1r : SK := ⟨[.v (.one (.bptr 0 0)), .v (.one (.int .i64))], [.box [.int .i64, .int .i64, .nil]]⟩
def s_FoldRecords.ko1 : Ex → List CastAt × List Nat
  | .nrm => ([], [])
  | .ret => ([], [2, 3])
  | .ext i => cond (Nat.beq i 0) ([], [0, 2]) ([], [])
def s_FoldRecords.G1 (n : Nat) (R : Type) (t : s_FoldRecords.sh1.T) (K : Ex → Kp → Option R) : Option R := s_FoldRecords.l1 (fun y0 y1 y2 => K (.ext 0) (SK.enc s_FoldRecords.sh1e0 ((y0, (), ()), ((y1, y2, (), ()), ())))) (fun y0 y1 y2 => K .ret (SK.enc s_FoldRecords.sh1r (((), y0, ()), ((y1, y2, (), ()), ())))) n t.1.1 t.1.2.2.1 t.2.1.1 t.2.1.2.1
def s_FoldRecords.S1 : Sum := ⟨([], [0, 2, 4]), sumF s_FoldRecords.sh1 (s_FoldRecords.G1 fuel), s_FoldRecords.ko1⟩
theorem s_FoldRecords.ok1 (hE : EOk Try.prog (s_FoldRecords.E)) : SumOk Try.prog s_FoldRecords.E (cB (cR (cL (cR (cR (bodyOf Try.f20)))))) (s_FoldRecords.S1) := by
  have hh : HintOk Try.prog s_FoldRecords.E (cB (cB (cR (cL (cR (cR (bodyOf Try.f20))))))) (.a) := HintOk.n1 (Q := True) (by kernel_rfl) trivial
  have h := loopS (kin := ([], [0, 2, 4])) (kout := s_FoldRecords.ko1) (sh := s_FoldRecords.sh1) (F := s_FoldRecords.G1) (ops_ok (hE.gv _)) (by kernel_rfl) hh (fun _ _ _ => rfl) (fun n R t K => by kernel_rfl) fuel
  exact HintOk.n1 (c := (cB (cR (cL (cR (cR (bodyOf Try.f20))))))) (h := .s (s_FoldRecords.S1)) (P := Try.prog) (E := s_FoldRecords.E) (by kernel_rfl) h
theorem s_FoldRecords.hok (hE : EOk Try.prog (s_FoldRecords.E)) : HintOk Try.prog s_FoldRecords.E (bodyOf Try.f20) (.n (.a) (.n (.a) (.n (.n (.a) (.b (.s (s_FoldRecords.S1)))) (.a)))) := HintOk.n1 (Q := (True) ∧ ((True) ∧ (((True) ∧ (SumOk Try.prog s_FoldRecords.E (cB (cR (cL (cR (cR (bodyOf Try.f20)))))) (s_FoldRecords.S1))) ∧ (True)))) (by kernel_rfl) ⟨trivial, ⟨trivial, ⟨⟨trivial, (s_FoldRecords.ok1 hE)⟩, trivial⟩⟩⟩
theorem s_FoldRecords.hE : EOk Try.prog (s_FoldRecords.E) := EOk.of ttOk (⟨s_l05FoldAll.fok, trivial⟩)
theorem s_FoldRecords.fok : FOk Try.prog 20 s_FoldRecords.fi :=
  fokS (E := s_FoldRecords.E) (wy := ⟨[[none, none, some (kEntry, false)], [none]], [[]], [⟨2, true, 2, .slv [0] kEntry⟩]⟩) (h := (fun gs => .n (.a) (.n (.a) (.n (.n (.a) (.b (.s (s_FoldRecords.S1)))) (.a))))) (G := fun t g => s_FoldRecords.F (fun y0 y1 y2 y3 => g (y0, y1, y2, y3)) t.1) (by kernel_rfl) s_FoldRecords.hE Try.func20 (by kernel_rfl) rfl (Nat.le_refl _) (fun t => HintOk.n1 (by kernel_rfl) (s_FoldRecords.hok s_FoldRecords.hE)) (fun t g => s_FoldRecords_nat g t.1) (fun t => by kernel_rfl)
/-! loop.example_g00220_impl.foldRecords$1 -/
def i_foldRecords_1.F {R : Type} (kk : Bool → Option R) (record : ByteArray) : Option R :=
  kk (decide ((ByteArray.size record : Int) > (110 : Int)))
theorem i_foldRecords_1.F_nat {R S : Type} (g : R → Option S) (kk : Bool → Option R) (record : ByteArray) : i_foldRecords_1.F (fun y0 => (kk y0).bind g) record = (i_foldRecords_1.F kk record).bind g := by
  simp only [i_foldRecords_1.F, grd_bind, cnd_bind, bnd_bind, non_bind]
def i_foldRecords_1 (record : ByteArray) : Option Bool := i_foldRecords_1.F (fun y0 => some y0) record
theorem i_foldRecords_1_nat {S : Type} (g : Bool → Option S) (record : ByteArray) : i_foldRecords_1.F (fun y0 => g y0) record = (i_foldRecords_1 record).bind g := i_foldRecords_1.F_nat g (fun y0 => some y0) record
def i_foldRecords_1.out : Bool → CRes := fun a => ⟨encL SV.enc [.one (.bool)] (a, ()), [encL SC.enc [] ()]⟩
def i_foldRecords_1.ps : List PS := [.val [none]]
def i_foldRecords_1.sA : List SA := [.v (.one (.str))]
def i_foldRecords_1.fi : FI := FIs i_foldRecords_1.sA (Bool) (fun t => i_foldRecords_1 t.1) i_foldRecords_1.out i_foldRecords_1.ps
def i_foldRecords_1.E : Env := ⟨tt, lkF [], 6, 0, [], []⟩
theorem i_foldRecords_1.hok (hE : EOk Try.prog (i_foldRecords_1.E)) : HintOk Try.prog i_foldRecords_1.E (bodyOf Try.f110) (.a) := HintOk.n1 (Q := True) (by kernel_rfl) trivial
theorem i_foldRecords_1.hE : EOk Try.prog (i_foldRecords_1.E) := EOk.of ttOk (trivial)
theorem i_foldRecords_1.fok : FOk Try.prog 110 i_foldRecords_1.fi :=
  fokS (E := i_foldRecords_1.E) (wy := ⟨[[none]], [[]], []⟩) (h := (fun gs => .a)) (G := fun t g => i_foldRecords_1.F (fun y0 => g y0) t.1) (by kernel_rfl) i_foldRecords_1.hE Try.func110 (by kernel_rfl) rfl (Nat.le_refl _) (fun t => HintOk.n1 (by kernel_rfl) (i_foldRecords_1.hok i_foldRecords_1.hE)) (fun t g => i_foldRecords_1_nat g t.1) (fun t => by kernel_rfl)
/-! __loop.example_g00220_impl.State_.fold -/
def i_State_fold.F {R : Type} (kk : Bool → Int → Int → List (El kEntry) → Option R) (s_Term : Int) (s_Vote : Int) (s_Log : List (El kEntry)) (record : ByteArray) : Option R :=
  cond (sEq record ByteArray.empty) (kk false s_Term s_Vote s_Log) (
    grd (gSl (1 : Int) (ByteArray.size record : Int) (ByteArray.size record)) <|
    grd (gIx (0 : Int) (ByteArray.size record)) <|
    cond ((byteAt record (0 : Int)) == (84 : Int)) (
      cond ((ByteArray.size (cut record (1 : Int) (ByteArray.size record : Int)) : Int) != (5 : Int)) (kk false s_Term s_Vote s_Log) (
        grd (gSl (0 : Int) (4 : Int) (ByteArray.size (cut record (1 : Int) (ByteArray.size record : Int)))) <|
        (i_numberOf (cut (cut record (1 : Int) (ByteArray.size record : Int)) (0 : Int) (4 : Int))).bind fun r =>
        grd (gSl (4 : Int) (ByteArray.size (cut record (1 : Int) (ByteArray.size record : Int)) : Int) (ByteArray.size (cut record (1 : Int) (ByteArray.size record : Int)))) <|
        (i_numberOf (cut (cut record (1 : Int) (ByteArray.size record : Int)) (4 : Int) (ByteArray.size (cut record (1 : Int) (ByteArray.size record : Int)) : Int))).bind fun r1 =>
        kk true r (IntKind.wrap .i64 (r1 - (1 : Int))) s_Log)) (
      cond ((byteAt record (0 : Int)) == (67 : Int)) (
        (i_numberOf (cut record (1 : Int) (ByteArray.size record : Int))).bind fun r2 =>
        cond ((ByteArray.size (cut record (1 : Int) (ByteArray.size record : Int)) : Int) != (4 : Int)) (kk false s_Term s_Vote s_Log) (
          cond (decide (r2 > (List.length s_Log : Int))) (kk false s_Term s_Vote s_Log) (
            grd (gSl (0 : Int) r2 (List.length s_Log)) <|
            kk true s_Term s_Vote (sub s_Log (0 : Int) r2)))) (
        cond ((byteAt record (0 : Int)) == (69 : Int)) (
          (i_readEntry (cut record (1 : Int) (ByteArray.size record : Int))).bind fun r3 =>
          grd (gRm (((List.length s_Log) + (List.length [(r3.1, (r3.2.1, r3.2.2.1))])) * 32)) <|
          cond (r3.2.2.2) (
            kk (decide ((List.length (s_Log ++ [(r3.1, (r3.2.1, r3.2.2.1))]) : Int) ≤ (60 : Int))) s_Term s_Vote (s_Log ++ [(r3.1, (r3.2.1, r3.2.2.1))])) (kk false s_Term s_Vote (s_Log ++ [(r3.1, (r3.2.1, r3.2.2.1))]))) (kk false s_Term s_Vote s_Log))))
theorem i_State_fold.F_nat {R S : Type} (g : R → Option S) (kk : Bool → Int → Int → List (El kEntry) → Option R) (s_Term : Int) (s_Vote : Int) (s_Log : List (El kEntry)) (record : ByteArray) : i_State_fold.F (fun y0 y1 y2 y3 => (kk y0 y1 y2 y3).bind g) s_Term s_Vote s_Log record = (i_State_fold.F kk s_Term s_Vote s_Log record).bind g := by
  simp only [i_State_fold.F, grd_bind, cnd_bind, bnd_bind, non_bind]
def i_State_fold (s_Term : Int) (s_Vote : Int) (s_Log : List (El kEntry)) (record : ByteArray) : Option (Bool × Int × Int × List (El kEntry)) := i_State_fold.F (fun y0 y1 y2 y3 => some (y0, y1, y2, y3)) s_Term s_Vote s_Log record
theorem i_State_fold_nat {S : Type} (g : (Bool × Int × Int × List (El kEntry)) → Option S) (s_Term : Int) (s_Vote : Int) (s_Log : List (El kEntry)) (record : ByteArray) : i_State_fold.F (fun y0 y1 y2 y3 => g (y0, y1, y2, y3)) s_Term s_Vote s_Log record = (i_State_fold s_Term s_Vote s_Log record).bind g := i_State_fold.F_nat g (fun y0 y1 y2 y3 => some (y0, y1, y2, y3)) s_Term s_Vote s_Log record
def i_State_fold.out : (Bool × Int × Int × List (El kEntry)) → CRes := fun a => ⟨encL SV.enc [.one (.bool)] (a.1, ()), [encL SC.enc [.int .i64, .int .i64, .own [] kEntry true] (a.2.1, a.2.2.1, a.2.2.2, ()), encL SC.enc [] ()]⟩
def i_State_fold.ps : List PS := [.ptr [none, none, some (kEntry, true)], .val [none]]
def i_State_fold.sA : List SA := [.ptr [.int .i64, .int .i64, .own [] kEntry true], .v (.one (.str))]
def i_State_fold.fi : FI := FIs i_State_fold.sA (Bool × Int × Int × List (El kEntry)) (fun t => i_State_fold t.1.1 t.1.2.1 t.1.2.2.1 t.2.1) i_State_fold.out i_State_fold.ps
def i_State_fold.E : Env := ⟨tt, lkF [(56, i_readEntry.fi), (140, i_numberOf.fi)], 84, 2, [], [55]⟩
theorem i_State_fold.hok (hE : EOk Try.prog (i_State_fold.E)) : HintOk Try.prog i_State_fold.E (bodyOf Try.f111) (.a) := HintOk.n1 (Q := True) (by kernel_rfl) trivial
theorem i_State_fold.hE : EOk Try.prog (i_State_fold.E) := EOk.of ttOk (⟨i_readEntry.fok, ⟨i_numberOf.fok, trivial⟩⟩)
theorem i_State_fold.fok : FOk Try.prog 111 i_State_fold.fi :=
  fokS (E := i_State_fold.E) (wy := ⟨[[none]], [[none, none, some (kEntry, true)], []], []⟩) (h := (fun gs => .a)) (G := fun t g => i_State_fold.F (fun y0 y1 y2 y3 => g (y0, y1, y2, y3)) t.1.1 t.1.2.1 t.1.2.2.1 t.2.1) (by kernel_rfl) i_State_fold.hE Try.func111 (by kernel_rfl) rfl (Nat.le_refl _) (fun t => HintOk.n1 (by kernel_rfl) (i_State_fold.hok i_State_fold.hE)) (fun t g => i_State_fold_nat g t.1.1 t.1.2.1 t.1.2.2.1 t.2.1) (fun t => by kernel_rfl)
/-! loop.example_g00220_impl.logOK -/
def i_logOK.l1 {R : Type} (kke0 : List (El kEntry) → Option R) (kkr : Bool → Option R) : Nat → List (El kEntry) → Int → List (El kEntry) → Int → Int → Option R
  | 0, _, _, _, _, _ => none
  | n + 1, log, term, l, i, i1 =>
    cond (decide (i1 < i)) (
      grd (gIx i1 (List.length l)) <|
      (i_entryOK ((rdE kEntry l (Int.toNat i1)).1) ((rdE kEntry l (Int.toNat i1)).2.1) ((rdE kEntry l (Int.toNat i1)).2.2)).bind fun r =>
      cond (!r) (kkr false) (
        cond (decide ((rdE kEntry l (Int.toNat i1)).1 > term)) (kkr false) (
          cond (decide (i1 > (0 : Int))) (
            grd (gIx (IntKind.wrap .i64 (i1 - (1 : Int))) (List.length log)) <|
            cond (decide ((rdE kEntry log (Int.toNat (IntKind.wrap .i64 (i1 - (1 : Int))))).1 > (rdE kEntry l (Int.toNat i1)).1)) (kkr false) (i_logOK.l1 kke0 kkr n log term l i (IntKind.wrap .i64 (i1 + (1 : Int))))) (i_logOK.l1 kke0 kkr n log term l i (IntKind.wrap .i64 (i1 + (1 : Int))))))) (kke0 log)
theorem i_logOK.l1_nat {R S : Type} (g : R → Option S) (kke0 : List (El kEntry) → Option R) (kkr : Bool → Option R) : ∀ (n : Nat) (log : List (El kEntry)) (term : Int) (l : List (El kEntry)) (i : Int) (i1 : Int), i_logOK.l1 (fun y0 => (kke0 y0).bind g) (fun y0 => (kkr y0).bind g) n log term l i i1 = (i_logOK.l1 kke0 kkr n log term l i i1).bind g := by
  intro n
  induction n with
  | zero => intros; rfl
  | succ n ih => intros; simp only [i_logOK.l1, grd_bind, cnd_bind, bnd_bind, non_bind, ih]
def i_logOK.F {R : Type} (kk : Bool → Option R) (log : List (El kEntry)) (term : Int) : Option R :=
  i_logOK.l1 (fun log1 => kk (decide ((List.length log1 : Int) ≤ (60 : Int)))) (fun b => kk b) fuel log term log (List.length log : Int) (0 : Int)
theorem i_logOK.F_nat {R S : Type} (g : R → Option S) (kk : Bool → Option R) (log : List (El kEntry)) (term : Int) : i_logOK.F (fun y0 => (kk y0).bind g) log term = (i_logOK.F kk log term).bind g := by
  simp only [i_logOK.F, grd_bind, cnd_bind, bnd_bind, non_bind, ← i_logOK.l1_nat]
def i_logOK (log : List (El kEntry)) (term : Int) : Option Bool := i_logOK.F (fun y0 => some y0) log term
theorem i_logOK_nat {S : Type} (g : Bool → Option S) (log : List (El kEntry)) (term : Int) : i_logOK.F (fun y0 => g y0) log term = (i_logOK log term).bind g := i_logOK.F_nat g (fun y0 => some y0) log term
def i_logOK.out : Bool → CRes := fun a => ⟨encL SV.enc [.one (.bool)] (a, ()), [encL SC.enc [] (), encL SC.enc [] ()]⟩
def i_logOK.ps : List PS := [.val [some (kEntry, false)], .val [none]]
def i_logOK.sA : List SA := [.v (.one (.slv [] kEntry)), .v (.one (.int .i64))]
def i_logOK.fi : FI := FIs i_logOK.sA (Bool) (fun t => i_logOK t.1 t.2.1) i_logOK.out i_logOK.ps
def i_logOK.E : Env := ⟨tt, lkF [(52, i_entryOK.fi)], 42, 0, [], []⟩
def i_logOK.sh1 : SK := ⟨[.v (.one (.slv [1] kEntry)), .v (.one (.int .i64)), .v (.one (.slv [1] kEntry)), .v (.one (.int .i64)), .v (.one (.int .i64))], []⟩
def i_logOK.sh1e0 : SK := ⟨[.v (.one (.slv [1] kEntry))], []⟩
def i_logOK.sh1r : SK := ⟨[.v (.one (.bool))], []⟩
def i_logOK.ko1 : Ex → List CastAt × List Nat
  | .nrm => ([], [])
  | .ret => ([], [4])
  | .ext i => cond (Nat.beq i 0) ([], [0]) ([], [])
def i_logOK.G1 (n : Nat) (R : Type) (t : i_logOK.sh1.T) (K : Ex → Kp → Option R) : Option R := i_logOK.l1 (fun y0 => K (.ext 0) (SK.enc i_logOK.sh1e0 ((y0, ()), ()))) (fun y0 => K .ret (SK.enc i_logOK.sh1r ((y0, ()), ()))) n t.1.1 t.1.2.1 t.1.2.2.1 t.1.2.2.2.1 t.1.2.2.2.2.1
def i_logOK.S1 : Sum := ⟨([], [0, 1, 7, 8, 9]), sumF i_logOK.sh1 (i_logOK.G1 fuel), i_logOK.ko1⟩
theorem i_logOK.ok1 (hE : EOk Try.prog (i_logOK.E)) : SumOk Try.prog i_logOK.E (cB (cR (cL (cR (bodyOf Try.f145))))) (i_logOK.S1) := by
  have hh : HintOk Try.prog i_logOK.E (cB (cB (cR (cL (cR (bodyOf Try.f145)))))) (.a) := HintOk.n1 (Q := True) (by kernel_rfl) trivial
  have h := loopS (kin := ([], [0, 1, 7, 8, 9])) (kout := i_logOK.ko1) (sh := i_logOK.sh1) (F := i_logOK.G1) (ops_ok (hE.gv _)) (by kernel_rfl) hh (fun _ _ _ => rfl) (fun n R t K => by kernel_rfl) fuel
  exact HintOk.n1 (c := (cB (cR (cL (cR (bodyOf Try.f145)))))) (h := .s (i_logOK.S1)) (P := Try.prog) (E := i_logOK.E) (by kernel_rfl) h
theorem i_logOK.hok (hE : EOk Try.prog (i_logOK.E)) : HintOk Try.prog i_logOK.E (bodyOf Try.f145) (.n (.a) (.n (.n (.a) (.b (.s (i_logOK.S1)))) (.a))) := HintOk.n1 (Q := (True) ∧ (((True) ∧ (SumOk Try.prog i_logOK.E (cB (cR (cL (cR (bodyOf Try.f145))))) (i_logOK.S1))) ∧ (True))) (by kernel_rfl) ⟨trivial, ⟨⟨trivial, (i_logOK.ok1 hE)⟩, trivial⟩⟩
theorem i_logOK.hE : EOk Try.prog (i_logOK.E) := EOk.of ttOk (⟨i_entryOK.fok, trivial⟩)
theorem i_logOK.fok : FOk Try.prog 145 i_logOK.fi :=
  fokS (E := i_logOK.E) (wy := ⟨[[none]], [[], []], []⟩) (h := (fun gs => .n (.a) (.n (.n (.a) (.b (.s (i_logOK.S1)))) (.a)))) (G := fun t g => i_logOK.F (fun y0 => g y0) t.1 t.2.1) (by kernel_rfl) i_logOK.hE Try.func145 (by kernel_rfl) rfl (Nat.le_refl _) (fun t => HintOk.n1 (by kernel_rfl) (i_logOK.hok i_logOK.hE)) (fun t g => i_logOK_nat g t.1 t.2.1) (fun t => by kernel_rfl)
/-! loop.example_g00220_impl.StateOK -/
def i_StateOK.F {R : Type} (kk : Bool → Option R) (s_Term : Int) (s_Vote : Int) (s_Log : List (El kEntry)) : Option R :=
  (i_within s_Term (0 : Int) (1000000 : Int)).bind fun r =>
  cond (r) (
    (i_within s_Vote (-1 : Int) (6 : Int)).bind fun r1 =>
    cond (r1) (
      (i_logOK s_Log s_Term).bind fun r2 =>
      kk r2) (kk false)) (kk false)
theorem i_StateOK.F_nat {R S : Type} (g : R → Option S) (kk : Bool → Option R) (s_Term : Int) (s_Vote : Int) (s_Log : List (El kEntry)) : i_StateOK.F (fun y0 => (kk y0).bind g) s_Term s_Vote s_Log = (i_StateOK.F kk s_Term s_Vote s_Log).bind g := by
  simp only [i_StateOK.F, grd_bind, cnd_bind, bnd_bind, non_bind]
def i_StateOK (s_Term : Int) (s_Vote : Int) (s_Log : List (El kEntry)) : Option Bool := i_StateOK.F (fun y0 => some y0) s_Term s_Vote s_Log
theorem i_StateOK_nat {S : Type} (g : Bool → Option S) (s_Term : Int) (s_Vote : Int) (s_Log : List (El kEntry)) : i_StateOK.F (fun y0 => g y0) s_Term s_Vote s_Log = (i_StateOK s_Term s_Vote s_Log).bind g := i_StateOK.F_nat g (fun y0 => some y0) s_Term s_Vote s_Log
def i_StateOK.out : Bool → CRes := fun a => ⟨encL SV.enc [.one (.bool)] (a, ()), [encL SC.enc [] ()]⟩
def i_StateOK.ps : List PS := [.val [none, none, some (kEntry, false)]]
def i_StateOK.sA : List SA := [.v (.agg [.int .i64, .int .i64, .slv [] kEntry])]
def i_StateOK.fi : FI := FIs i_StateOK.sA (Bool) (fun t => i_StateOK t.1.1 t.1.2.1 t.1.2.2.1) i_StateOK.out i_StateOK.ps
def i_StateOK.E : Env := ⟨tt, lkF [(79, i_within.fi), (145, i_logOK.fi)], 18, 0, [], []⟩
theorem i_StateOK.hok (hE : EOk Try.prog (i_StateOK.E)) : HintOk Try.prog i_StateOK.E (bodyOf Try.f112) (.a) := HintOk.n1 (Q := True) (by kernel_rfl) trivial
theorem i_StateOK.hE : EOk Try.prog (i_StateOK.E) := EOk.of ttOk (⟨i_within.fok, ⟨i_logOK.fok, trivial⟩⟩)
theorem i_StateOK.fok : FOk Try.prog 112 i_StateOK.fi :=
  fokS (E := i_StateOK.E) (wy := ⟨[[none]], [[]], []⟩) (h := (fun gs => .a)) (G := fun t g => i_StateOK.F (fun y0 => g y0) t.1.1 t.1.2.1 t.1.2.2.1) (by kernel_rfl) i_StateOK.hE Try.func112 (by kernel_rfl) rfl (Nat.le_refl _) (fun t => HintOk.n1 (by kernel_rfl) (i_StateOK.hok i_StateOK.hE)) (fun t g => i_StateOK_nat g t.1.1 t.1.2.1 t.1.2.2.1) (fun t => by kernel_rfl)
/-! slices.Clone___loop.example_g00220_impl.Entry_loop.example_g00220_impl.Entry_ -/
def slices_Clone_SLi_Entry_i_Entry.F {R : Type} (kk : List (El kEntry) → Option R) (s : List (El kEntry)) : Option R :=
  cond (List.isEmpty s) (
    agree (kk []) (
      grd (gRm (((List.length ([] : List (El kEntry))) + (List.length s)) * 32)) <|
      kk (([] : List (El kEntry)) ++ s))) (
    grd (gRm (((List.length ([] : List (El kEntry))) + (List.length s)) * 32)) <|
    kk (([] : List (El kEntry)) ++ s))
theorem slices_Clone_SLi_Entry_i_Entry.F_nat {R S : Type} (g : R → Option S) (kk : List (El kEntry) → Option R) (s : List (El kEntry)) : slices_Clone_SLi_Entry_i_Entry.F (fun y0 => (kk y0).bind g) s = (slices_Clone_SLi_Entry_i_Entry.F kk s).bind g := by
  cases s with
  | nil =>
    have e : ∀ {R : Type} (k : List (El kEntry) → Option R), slices_Clone_SLi_Entry_i_Entry.F k [] = agree (k []) (k []) := fun k => by kernel_rfl
    rw [e, e, agree_self, agree_self]
  | cons x l => simp only [slices_Clone_SLi_Entry_i_Entry.F, List.isEmpty_cons, cond_false, grd_bind]
def slices_Clone_SLi_Entry_i_Entry (s : List (El kEntry)) : Option (List (El kEntry)) := slices_Clone_SLi_Entry_i_Entry.F (fun y0 => some y0) s
theorem slices_Clone_SLi_Entry_i_Entry_nat {S : Type} (g : (List (El kEntry)) → Option S) (s : List (El kEntry)) : slices_Clone_SLi_Entry_i_Entry.F (fun y0 => g y0) s = (slices_Clone_SLi_Entry_i_Entry s).bind g := slices_Clone_SLi_Entry_i_Entry.F_nat g (fun y0 => some y0) s
def slices_Clone_SLi_Entry_i_Entry.out : (List (El kEntry)) → CRes := fun a => ⟨encL SV.enc [.one (.own [] kEntry true)] (a, ()), [encL SC.enc [] ()]⟩
def slices_Clone_SLi_Entry_i_Entry.ps : List PS := [.val [some (kEntry, false)]]
def slices_Clone_SLi_Entry_i_Entry.sA : List SA := [.v (.one (.slv [] kEntry))]
def slices_Clone_SLi_Entry_i_Entry.fi : FI := FIs slices_Clone_SLi_Entry_i_Entry.sA (List (El kEntry)) (fun t => slices_Clone_SLi_Entry_i_Entry t.1) slices_Clone_SLi_Entry_i_Entry.out slices_Clone_SLi_Entry_i_Entry.ps
def slices_Clone_SLi_Entry_i_Entry.E : Env := ⟨tt, lkF [], 8, 0, [], []⟩
theorem slices_Clone_SLi_Entry_i_Entry.hok (hE : EOk Try.prog (slices_Clone_SLi_Entry_i_Entry.E)) : HintOk Try.prog slices_Clone_SLi_Entry_i_Entry.E (bodyOf Try.f113) (.a) := HintOk.n1 (Q := True) (by kernel_rfl) trivial
theorem slices_Clone_SLi_Entry_i_Entry.hE : EOk Try.prog (slices_Clone_SLi_Entry_i_Entry.E) := EOk.of ttOk (trivial)
theorem slices_Clone_SLi_Entry_i_Entry.fok : FOk Try.prog 113 slices_Clone_SLi_Entry_i_Entry.fi :=
  fokS (E := slices_Clone_SLi_Entry_i_Entry.E) (wy := ⟨[[some (kEntry, true)]], [[]], []⟩) (h := (fun gs => .a)) (G := fun t g => slices_Clone_SLi_Entry_i_Entry.F (fun y0 => g y0) t.1) (by kernel_rfl) slices_Clone_SLi_Entry_i_Entry.hE Try.func113 (by kernel_rfl) rfl (Nat.le_refl _) (fun t => HintOk.n1 (by kernel_rfl) (slices_Clone_SLi_Entry_i_Entry.hok slices_Clone_SLi_Entry_i_Entry.hE)) (fun t g => slices_Clone_SLi_Entry_i_Entry_nat g t.1) (fun t => by kernel_rfl)
/-! loop.example_g00220_impl.foldRecords -/
def i_foldRecords.l1 {R : Type} (kke0 : Int → Int → Int → Int → List (El kEntry) → Option R) (kkr : Int → Int → Int → Option R) : Nat → List ByteArray → Int → Int → Int → Int → Int → Int → List (El kEntry) → Option R
  | 0, _, _, _, _, _, _, _, _ => none
  | n + 1, l, i, i1, i2, i3, s, s1, l1 =>
    cond (decide (i1 < i)) (
      grd (gIx i1 (List.length l)) <|
      (i_State_fold s s1 l1 (rdE (.str : Kd) l (Int.toNat i1))).bind fun r =>
      cond (!r.1) (kkr (3 : Int) (0 : Int) (0 : Int)) (
        i_foldRecords.l1 kke0 kkr n l i (IntKind.wrap .i64 (i1 + (1 : Int))) i2 i3 r.2.1 r.2.2.1 r.2.2.2)) (kke0 i2 i3 s s1 l1)
theorem i_foldRecords.l1_nat {R S : Type} (g : R → Option S) (kke0 : Int → Int → Int → Int → List (El kEntry) → Option R) (kkr : Int → Int → Int → Option R) : ∀ (n : Nat) (l : List ByteArray) (i : Int) (i1 : Int) (i2 : Int) (i3 : Int) (s : Int) (s1 : Int) (l1 : List (El kEntry)), i_foldRecords.l1 (fun y0 y1 y2 y3 y4 => (kke0 y0 y1 y2 y3 y4).bind g) (fun y0 y1 y2 => (kkr y0 y1 y2).bind g) n l i i1 i2 i3 s s1 l1 = (i_foldRecords.l1 kke0 kkr n l i i1 i2 i3 s s1 l1).bind g := by
  intro n
  induction n with
  | zero => intros; rfl
  | succ n ih => intros; simp only [i_foldRecords.l1, grd_bind, cnd_bind, bnd_bind, non_bind, ih]
def i_foldRecords.F {R : Type} (kk : Int → Int → List (El kEntry) → Int → Option R) (list : List ByteArray) : Option R :=
  (slices_ContainsFunc_SLstring_string list (fun t => (i_foldRecords_1 t.1).bind fun a => some (a, ()))).bind fun r =>
  cond (r) (kk (0 : Int) (0 : Int) [] (4 : Int)) (
    i_foldRecords.l1 (fun i i1 s s1 l =>
      (i_StateOK s s1 l).bind fun r1 =>
      cond (!r1) (kk (0 : Int) (0 : Int) [] (3 : Int)) (
        (slices_Clone_SLi_Entry_i_Entry l).bind fun r2 =>
        kk s s1 r2 (0 : Int))) (fun i2 i3 i4 => kk i3 i4 [] i2) fuel list (List.length list : Int) (0 : Int) (0 : Int) (0 : Int) (0 : Int) (-1 : Int) [])
theorem i_foldRecords.F_nat {R S : Type} (g : R → Option S) (kk : Int → Int → List (El kEntry) → Int → Option R) (list : List ByteArray) : i_foldRecords.F (fun y0 y1 y2 y3 => (kk y0 y1 y2 y3).bind g) list = (i_foldRecords.F kk list).bind g := by
  simp only [i_foldRecords.F, grd_bind, cnd_bind, bnd_bind, non_bind, ← i_foldRecords.l1_nat]
def i_foldRecords (list : List ByteArray) : Option (Int × Int × List (El kEntry) × Int) := i_foldRecords.F (fun y0 y1 y2 y3 => some (y0, y1, y2, y3)) list
theorem i_foldRecords_nat {S : Type} (g : (Int × Int × List (El kEntry) × Int) → Option S) (list : List ByteArray) : i_foldRecords.F (fun y0 y1 y2 y3 => g (y0, y1, y2, y3)) list = (i_foldRecords list).bind g := i_foldRecords.F_nat g (fun y0 y1 y2 y3 => some (y0, y1, y2, y3)) list
def i_foldRecords.out : (Int × Int × List (El kEntry) × Int) → CRes := fun a => ⟨encL SV.enc [.agg [.int .i64, .int .i64, .own [] kEntry true], .one (.int .i64)] ((a.1, a.2.1, a.2.2.1, ()), a.2.2.2, ()), [encL SC.enc [] ()]⟩
def i_foldRecords.ps : List PS := [.val [some (.str, false)]]
def i_foldRecords.sA : List SA := [.v (.one (.slv [] .str))]
def i_foldRecords.fi : FI := FIs i_foldRecords.sA (Int × Int × List (El kEntry) × Int) (fun t => i_foldRecords t.1) i_foldRecords.out i_foldRecords.ps
def i_foldRecords.E : Env := ⟨tt, lkF [(109, slices_ContainsFunc_SLstring_string.fi), (110, i_foldRecords_1.fi), (111, i_State_fold.fi), (112, i_StateOK.fi), (113, slices_Clone_SLi_Entry_i_Entry.fi)], 34, 0, [], []⟩
def i_foldRecords.sh1 : SK := ⟨[.v (.one (.bptr 0 0)), .v (.one (.bptr 1 0)), .v (.one (.slv [1] .str)), .v (.one (.int .i64)), .v (.one (.int .i64))], [.box [.int .i64, .int .i64, .nil], .box [.int .i64, .int .i64, .slo 2], .arr kEntry [] true]⟩
def i_foldRecords.sh1e0 : SK := ⟨[.v (.one (.bptr 0 0)), .v (.one (.bptr 1 0))], [.box [.int .i64, .int .i64, .nil], .box [.int .i64, .int .i64, .slo 2], .arr kEntry [] true]⟩
def i_foldRecords.sh1r : SK := ⟨[.v (.one (.bptr 0 0)), .v (.one (.int .i64))], [.box [.int .i64, .int .i64, .nil]]⟩
def i_foldRecords.ko1 : Ex → List CastAt × List Nat
  | .nrm => ([], [])
  | .ret => ([], [2, 3])
  | .ext i => cond (Nat.beq i 0) ([], [2, 4]) ([], [])
def i_foldRecords.G1 (n : Nat) (R : Type) (t : i_foldRecords.sh1.T) (K : Ex → Kp → Option R) : Option R := i_foldRecords.l1 (fun y0 y1 y2 y3 y4 => K (.ext 0) (SK.enc i_foldRecords.sh1e0 (((), (), ()), ((y0, y1, (), ()), (y2, y3, (), ()), y4, ())))) (fun y0 y1 y2 => K .ret (SK.enc i_foldRecords.sh1r (((), y0, ()), ((y1, y2, (), ()), ())))) n t.1.2.2.1 t.1.2.2.2.1 t.1.2.2.2.2.1 t.2.1.1 t.2.1.2.1 t.2.2.1.1 t.2.2.1.2.1 t.2.2.2.1
def i_foldRecords.S1 : Sum := ⟨([⟨4, true, 2, .own kEntry⟩], [2, 4, 11, 12, 13]), sumF i_foldRecords.sh1 (i_foldRecords.G1 fuel), i_foldRecords.ko1⟩
theorem i_foldRecords.ok1 (hE : EOk Try.prog (i_foldRecords.E)) : SumOk Try.prog i_foldRecords.E (cB (cR (cL (cR (cR (cR (bodyOf Try.f63))))))) (i_foldRecords.S1) := by
  have hh : HintOk Try.prog i_foldRecords.E (cB (cB (cR (cL (cR (cR (cR (bodyOf Try.f63)))))))) (.a) := HintOk.n1 (Q := True) (by kernel_rfl) trivial
  have h := loopS (kin := ([⟨4, true, 2, .own kEntry⟩], [2, 4, 11, 12, 13])) (kout := i_foldRecords.ko1) (sh := i_foldRecords.sh1) (F := i_foldRecords.G1) (ops_ok (hE.gv _)) (by kernel_rfl) hh (fun _ _ _ => rfl) (fun n R t K => by kernel_rfl) fuel
  exact HintOk.n1 (c := (cB (cR (cL (cR (cR (cR (bodyOf Try.f63)))))))) (h := .s (i_foldRecords.S1)) (P := Try.prog) (E := i_foldRecords.E) (by kernel_rfl) h
theorem i_foldRecords.hok (hE : EOk Try.prog (i_foldRecords.E)) : HintOk Try.prog i_foldRecords.E (bodyOf Try.f63) (.n (.a) (.n (.a) (.n (.a) (.n (.n (.a) (.b (.s (i_foldRecords.S1)))) (.a))))) := HintOk.n1 (Q := (True) ∧ ((True) ∧ ((True) ∧ (((True) ∧ (SumOk Try.prog i_foldRecords.E (cB (cR (cL (cR (cR (cR (bodyOf Try.f63))))))) (i_foldRecords.S1))) ∧ (True))))) (by kernel_rfl) ⟨trivial, ⟨trivial, ⟨trivial, ⟨⟨trivial, (i_foldRecords.ok1 hE)⟩, trivial⟩⟩⟩⟩
theorem i_foldRecords.hE : EOk Try.prog (i_foldRecords.E) := EOk.of ttOk (⟨slices_ContainsFunc_SLstring_string.fok, ⟨i_foldRecords_1.fok, ⟨i_State_fold.fok, ⟨i_StateOK.fok, ⟨slices_Clone_SLi_Entry_i_Entry.fok, trivial⟩⟩⟩⟩⟩)
theorem i_foldRecords.fok : FOk Try.prog 63 i_foldRecords.fi :=
  fokS (E := i_foldRecords.E) (wy := ⟨[[none, none, some (kEntry, true)], [none]], [[]], []⟩) (h := (fun gs => .n (.a) (.n (.a) (.n (.a) (.n (.n (.a) (.b (.s (i_foldRecords.S1)))) (.a)))))) (G := fun t g => i_foldRecords.F (fun y0 y1 y2 y3 => g (y0, y1, y2, y3)) t.1) (by kernel_rfl) i_foldRecords.hE Try.func63 (by kernel_rfl) rfl (Nat.le_refl _) (fun t => HintOk.n1 (by kernel_rfl) (i_foldRecords.hok i_foldRecords.hE)) (fun t g => i_foldRecords_nat g t.1) (fun t => by kernel_rfl)
/-! loop.example_g00220_impl.FoldRecords -/
def i_FoldRecords.F {R : Type} (kk : Int → Int → List (El kEntry) → Int → Option R) (list : List ByteArray) : Option R :=
  (i_isList_string list).bind fun r =>
  cond (!r) (kk (0 : Int) (0 : Int) [] (2 : Int)) (
    (i_foldRecords list).bind fun r1 =>
    kk r1.1 r1.2.1 r1.2.2.1 r1.2.2.2)
theorem i_FoldRecords.F_nat {R S : Type} (g : R → Option S) (kk : Int → Int → List (El kEntry) → Int → Option R) (list : List ByteArray) : i_FoldRecords.F (fun y0 y1 y2 y3 => (kk y0 y1 y2 y3).bind g) list = (i_FoldRecords.F kk list).bind g := by
  simp only [i_FoldRecords.F, grd_bind, cnd_bind, bnd_bind, non_bind]
def i_FoldRecords (list : List ByteArray) : Option (Int × Int × List (El kEntry) × Int) := i_FoldRecords.F (fun y0 y1 y2 y3 => some (y0, y1, y2, y3)) list
theorem i_FoldRecords_nat {S : Type} (g : (Int × Int × List (El kEntry) × Int) → Option S) (list : List ByteArray) : i_FoldRecords.F (fun y0 y1 y2 y3 => g (y0, y1, y2, y3)) list = (i_FoldRecords list).bind g := i_FoldRecords.F_nat g (fun y0 y1 y2 y3 => some (y0, y1, y2, y3)) list
def i_FoldRecords.out : (Int × Int × List (El kEntry) × Int) → CRes := fun a => ⟨encL SV.enc [.agg [.int .i64, .int .i64, .own [] kEntry true], .one (.int .i64)] ((a.1, a.2.1, a.2.2.1, ()), a.2.2.2, ()), [encL SC.enc [] ()]⟩
def i_FoldRecords.ps : List PS := [.val [some (.str, false)]]
def i_FoldRecords.sA : List SA := [.v (.one (.slv [] .str))]
def i_FoldRecords.fi : FI := FIs i_FoldRecords.sA (Int × Int × List (El kEntry) × Int) (fun t => i_FoldRecords t.1) i_FoldRecords.out i_FoldRecords.ps
def i_FoldRecords.E : Env := ⟨tt, lkF [(62, i_isList_string.fi), (63, i_foldRecords.fi)], 12, 0, [], []⟩
theorem i_FoldRecords.hok (hE : EOk Try.prog (i_FoldRecords.E)) : HintOk Try.prog i_FoldRecords.E (bodyOf Try.f22) (.a) := HintOk.n1 (Q := True) (by kernel_rfl) trivial
theorem i_FoldRecords.hE : EOk Try.prog (i_FoldRecords.E) := EOk.of ttOk (⟨i_isList_string.fok, ⟨i_foldRecords.fok, trivial⟩⟩)
theorem i_FoldRecords.fok : FOk Try.prog 22 i_FoldRecords.fi :=
  fokS (E := i_FoldRecords.E) (wy := ⟨[[none, none, some (kEntry, true)], [none]], [[]], []⟩) (h := (fun gs => .a)) (G := fun t g => i_FoldRecords.F (fun y0 y1 y2 y3 => g (y0, y1, y2, y3)) t.1) (by kernel_rfl) i_FoldRecords.hE Try.func22 (by kernel_rfl) rfl (Nat.le_refl _) (fun t => HintOk.n1 (by kernel_rfl) (i_FoldRecords.hok i_FoldRecords.hE)) (fun t g => i_FoldRecords_nat g t.1) (fun t => by kernel_rfl)
/-! loop.example_g00220_laws.eqEntry -/
def l_eqEntry.F {R : Type} (kk : Bool → Option R) (a_Term : Int) (a_Kind : Int) (a_Data : ByteArray) (b_Term : Int) (b_Kind : Int) (b_Data : ByteArray) : Option R :=
  cond (a_Term != b_Term) (kk false) (cond (a_Kind != b_Kind) (kk false) (cond (!(sEq a_Data b_Data)) (kk false) (kk true)))
theorem l_eqEntry.F_nat {R S : Type} (g : R → Option S) (kk : Bool → Option R) (a_Term : Int) (a_Kind : Int) (a_Data : ByteArray) (b_Term : Int) (b_Kind : Int) (b_Data : ByteArray) : l_eqEntry.F (fun y0 => (kk y0).bind g) a_Term a_Kind a_Data b_Term b_Kind b_Data = (l_eqEntry.F kk a_Term a_Kind a_Data b_Term b_Kind b_Data).bind g := by
  simp only [l_eqEntry.F, grd_bind, cnd_bind, bnd_bind, non_bind]
def l_eqEntry (a_Term : Int) (a_Kind : Int) (a_Data : ByteArray) (b_Term : Int) (b_Kind : Int) (b_Data : ByteArray) : Option Bool := l_eqEntry.F (fun y0 => some y0) a_Term a_Kind a_Data b_Term b_Kind b_Data
theorem l_eqEntry_nat {S : Type} (g : Bool → Option S) (a_Term : Int) (a_Kind : Int) (a_Data : ByteArray) (b_Term : Int) (b_Kind : Int) (b_Data : ByteArray) : l_eqEntry.F (fun y0 => g y0) a_Term a_Kind a_Data b_Term b_Kind b_Data = (l_eqEntry a_Term a_Kind a_Data b_Term b_Kind b_Data).bind g := l_eqEntry.F_nat g (fun y0 => some y0) a_Term a_Kind a_Data b_Term b_Kind b_Data
def l_eqEntry.out : Bool → CRes := fun a => ⟨encL SV.enc [.one (.bool)] (a, ()), [encL SC.enc [] (), encL SC.enc [] ()]⟩
def l_eqEntry.ps : List PS := [.val [none, none, none], .val [none, none, none]]
def l_eqEntry.sA : List SA := [.v (.agg [.int .i64, .int .i64, .str]), .v (.agg [.int .i64, .int .i64, .str])]
def l_eqEntry.fi : FI := FIs l_eqEntry.sA (Bool) (fun t => l_eqEntry t.1.1 t.1.2.1 t.1.2.2.1 t.2.1.1 t.2.1.2.1 t.2.1.2.2.1) l_eqEntry.out l_eqEntry.ps
def l_eqEntry.E : Env := ⟨tt, lkF [], 20, 0, [], []⟩
theorem l_eqEntry.hok (hE : EOk Try.prog (l_eqEntry.E)) : HintOk Try.prog l_eqEntry.E (bodyOf Try.f114) (.a) := HintOk.n1 (Q := True) (by kernel_rfl) trivial
theorem l_eqEntry.hE : EOk Try.prog (l_eqEntry.E) := EOk.of ttOk (trivial)
theorem l_eqEntry.fok : FOk Try.prog 114 l_eqEntry.fi :=
  fokS (E := l_eqEntry.E) (wy := ⟨[[none]], [[], []], []⟩) (h := (fun gs => .a)) (G := fun t g => l_eqEntry.F (fun y0 => g y0) t.1.1 t.1.2.1 t.1.2.2.1 t.2.1.1 t.2.1.2.1 t.2.1.2.2.1) (by kernel_rfl) l_eqEntry.hE Try.func114 (by kernel_rfl) rfl (Nat.le_refl _) (fun t => HintOk.n1 (by kernel_rfl) (l_eqEntry.hok l_eqEntry.hE)) (fun t g => l_eqEntry_nat g t.1.1 t.1.2.1 t.1.2.2.1 t.2.1.1 t.2.1.2.1 t.2.1.2.2.1) (fun t => by kernel_rfl)
/-! loop.example_g00220_laws.eqEntryS -/
def l_eqEntryS.l1 {R : Type} (kke0 : Option R) (kkr : Bool → Option R) : Nat → List (El kEntry) → List (El kEntry) → Int → Option R
  | 0, _, _, _ => none
  | n + 1, a, b, i =>
    cond (decide (i < (List.length a : Int))) (
      grd (gIx i (List.length a)) <|
      grd (gIx i (List.length b)) <|
      (l_eqEntry ((rdE kEntry a (Int.toNat i)).1) ((rdE kEntry a (Int.toNat i)).2.1) ((rdE kEntry a (Int.toNat i)).2.2) ((rdE kEntry b (Int.toNat i)).1) ((rdE kEntry b (Int.toNat i)).2.1) ((rdE kEntry b (Int.toNat i)).2.2)).bind fun r =>
      cond (!r) (kkr false) (l_eqEntryS.l1 kke0 kkr n a b (IntKind.wrap .i64 (i + (1 : Int))))) (kke0)
theorem l_eqEntryS.l1_nat {R S : Type} (g : R → Option S) (kke0 : Option R) (kkr : Bool → Option R) : ∀ (n : Nat) (a : List (El kEntry)) (b : List (El kEntry)) (i : Int), l_eqEntryS.l1 (kke0.bind g) (fun y0 => (kkr y0).bind g) n a b i = (l_eqEntryS.l1 kke0 kkr n a b i).bind g := by
  intro n
  induction n with
  | zero => intros; rfl
  | succ n ih => intros; simp only [l_eqEntryS.l1, grd_bind, cnd_bind, bnd_bind, non_bind, ih]
def l_eqEntryS.F {R : Type} (kk : Bool → Option R) (a : List (El kEntry)) (b : List (El kEntry)) : Option R :=
  cond ((List.length a : Int) != (List.length b : Int)) (kk false) (l_eqEntryS.l1 (kk true) (fun b1 => kk b1) fuel a b (0 : Int))
theorem l_eqEntryS.F_nat {R S : Type} (g : R → Option S) (kk : Bool → Option R) (a : List (El kEntry)) (b : List (El kEntry)) : l_eqEntryS.F (fun y0 => (kk y0).bind g) a b = (l_eqEntryS.F kk a b).bind g := by
  simp only [l_eqEntryS.F, grd_bind, cnd_bind, bnd_bind, non_bind, ← l_eqEntryS.l1_nat]
def l_eqEntryS (a : List (El kEntry)) (b : List (El kEntry)) : Option Bool := l_eqEntryS.F (fun y0 => some y0) a b
theorem l_eqEntryS_nat {S : Type} (g : Bool → Option S) (a : List (El kEntry)) (b : List (El kEntry)) : l_eqEntryS.F (fun y0 => g y0) a b = (l_eqEntryS a b).bind g := l_eqEntryS.F_nat g (fun y0 => some y0) a b
def l_eqEntryS.out : Bool → CRes := fun a => ⟨encL SV.enc [.one (.bool)] (a, ()), [encL SC.enc [] (), encL SC.enc [] ()]⟩
def l_eqEntryS.ps : List PS := [.val [some (kEntry, false)], .val [some (kEntry, false)]]
def l_eqEntryS.sA : List SA := [.v (.one (.slv [] kEntry)), .v (.one (.slv [] kEntry))]
def l_eqEntryS.fi : FI := FIs l_eqEntryS.sA (Bool) (fun t => l_eqEntryS t.1 t.2.1) l_eqEntryS.out l_eqEntryS.ps
def l_eqEntryS.E : Env := ⟨tt, lkF [(114, l_eqEntry.fi)], 27, 0, [], []⟩
def l_eqEntryS.sh1 : SK := ⟨[.v (.one (.slv [1] kEntry)), .v (.one (.slv [2] kEntry)), .v (.one (.int .i64))], []⟩
def l_eqEntryS.sh1e0 : SK := ⟨[], []⟩
def l_eqEntryS.sh1r : SK := ⟨[.v (.one (.bool))], []⟩
def l_eqEntryS.ko1 : Ex → List CastAt × List Nat
  | .nrm => ([], [])
  | .ret => ([], [4])
  | .ext i => cond (Nat.beq i 0) ([], []) ([], [])
def l_eqEntryS.G1 (n : Nat) (R : Type) (t : l_eqEntryS.sh1.T) (K : Ex → Kp → Option R) : Option R := l_eqEntryS.l1 (K (.ext 0) (SK.enc l_eqEntryS.sh1e0 ((), ()))) (fun y0 => K .ret (SK.enc l_eqEntryS.sh1r ((y0, ()), ()))) n t.1.1 t.1.2.1 t.1.2.2.1
def l_eqEntryS.S1 : Sum := ⟨([], [0, 1, 5]), sumF l_eqEntryS.sh1 (l_eqEntryS.G1 fuel), l_eqEntryS.ko1⟩
theorem l_eqEntryS.ok1 (hE : EOk Try.prog (l_eqEntryS.E)) : SumOk Try.prog l_eqEntryS.E (cB (cR (cL (cR (cR (bodyOf Try.f64)))))) (l_eqEntryS.S1) := by
  have hh : HintOk Try.prog l_eqEntryS.E (cB (cB (cR (cL (cR (cR (bodyOf Try.f64))))))) (.a) := HintOk.n1 (Q := True) (by kernel_rfl) trivial
  have h := loopS (kin := ([], [0, 1, 5])) (kout := l_eqEntryS.ko1) (sh := l_eqEntryS.sh1) (F := l_eqEntryS.G1) (ops_ok (hE.gv _)) (by kernel_rfl) hh (fun _ _ _ => rfl) (fun n R t K => by kernel_rfl) fuel
  exact HintOk.n1 (c := (cB (cR (cL (cR (cR (bodyOf Try.f64))))))) (h := .s (l_eqEntryS.S1)) (P := Try.prog) (E := l_eqEntryS.E) (by kernel_rfl) h
theorem l_eqEntryS.hok (hE : EOk Try.prog (l_eqEntryS.E)) : HintOk Try.prog l_eqEntryS.E (bodyOf Try.f64) (.n (.a) (.n (.a) (.n (.n (.a) (.b (.s (l_eqEntryS.S1)))) (.a)))) := HintOk.n1 (Q := (True) ∧ ((True) ∧ (((True) ∧ (SumOk Try.prog l_eqEntryS.E (cB (cR (cL (cR (cR (bodyOf Try.f64)))))) (l_eqEntryS.S1))) ∧ (True)))) (by kernel_rfl) ⟨trivial, ⟨trivial, ⟨⟨trivial, (l_eqEntryS.ok1 hE)⟩, trivial⟩⟩⟩
theorem l_eqEntryS.hE : EOk Try.prog (l_eqEntryS.E) := EOk.of ttOk (⟨l_eqEntry.fok, trivial⟩)
theorem l_eqEntryS.fok : FOk Try.prog 64 l_eqEntryS.fi :=
  fokS (E := l_eqEntryS.E) (wy := ⟨[[none]], [[], []], []⟩) (h := (fun gs => .n (.a) (.n (.a) (.n (.n (.a) (.b (.s (l_eqEntryS.S1)))) (.a))))) (G := fun t g => l_eqEntryS.F (fun y0 => g y0) t.1 t.2.1) (by kernel_rfl) l_eqEntryS.hE Try.func64 (by kernel_rfl) rfl (Nat.le_refl _) (fun t => HintOk.n1 (by kernel_rfl) (l_eqEntryS.hok l_eqEntryS.hE)) (fun t g => l_eqEntryS_nat g t.1 t.2.1) (fun t => by kernel_rfl)
/-! loop.example_g00220_laws.eqState -/
def l_eqState.F {R : Type} (kk : Bool → Option R) (a_Term : Int) (a_Vote : Int) (a_Log : List (El kEntry)) (b_Term : Int) (b_Vote : Int) (b_Log : List (El kEntry)) : Option R :=
  cond (a_Term != b_Term) (kk false) (
    cond (a_Vote != b_Vote) (kk false) (
      (l_eqEntryS a_Log b_Log).bind fun r =>
      cond (!r) (kk false) (kk true)))
theorem l_eqState.F_nat {R S : Type} (g : R → Option S) (kk : Bool → Option R) (a_Term : Int) (a_Vote : Int) (a_Log : List (El kEntry)) (b_Term : Int) (b_Vote : Int) (b_Log : List (El kEntry)) : l_eqState.F (fun y0 => (kk y0).bind g) a_Term a_Vote a_Log b_Term b_Vote b_Log = (l_eqState.F kk a_Term a_Vote a_Log b_Term b_Vote b_Log).bind g := by
  simp only [l_eqState.F, grd_bind, cnd_bind, bnd_bind, non_bind]
def l_eqState (a_Term : Int) (a_Vote : Int) (a_Log : List (El kEntry)) (b_Term : Int) (b_Vote : Int) (b_Log : List (El kEntry)) : Option Bool := l_eqState.F (fun y0 => some y0) a_Term a_Vote a_Log b_Term b_Vote b_Log
theorem l_eqState_nat {S : Type} (g : Bool → Option S) (a_Term : Int) (a_Vote : Int) (a_Log : List (El kEntry)) (b_Term : Int) (b_Vote : Int) (b_Log : List (El kEntry)) : l_eqState.F (fun y0 => g y0) a_Term a_Vote a_Log b_Term b_Vote b_Log = (l_eqState a_Term a_Vote a_Log b_Term b_Vote b_Log).bind g := l_eqState.F_nat g (fun y0 => some y0) a_Term a_Vote a_Log b_Term b_Vote b_Log
def l_eqState.out : Bool → CRes := fun a => ⟨encL SV.enc [.one (.bool)] (a, ()), [encL SC.enc [] (), encL SC.enc [] ()]⟩
def l_eqState.ps : List PS := [.val [none, none, some (kEntry, false)], .val [none, none, some (kEntry, false)]]
def l_eqState.sA : List SA := [.v (.agg [.int .i64, .int .i64, .slv [] kEntry]), .v (.agg [.int .i64, .int .i64, .slv [] kEntry])]
def l_eqState.fi : FI := FIs l_eqState.sA (Bool) (fun t => l_eqState t.1.1 t.1.2.1 t.1.2.2.1 t.2.1.1 t.2.1.2.1 t.2.1.2.2.1) l_eqState.out l_eqState.ps
def l_eqState.E : Env := ⟨tt, lkF [(64, l_eqEntryS.fi)], 21, 0, [], []⟩
theorem l_eqState.hok (hE : EOk Try.prog (l_eqState.E)) : HintOk Try.prog l_eqState.E (bodyOf Try.f23) (.a) := HintOk.n1 (Q := True) (by kernel_rfl) trivial
theorem l_eqState.hE : EOk Try.prog (l_eqState.E) := EOk.of ttOk (⟨l_eqEntryS.fok, trivial⟩)
theorem l_eqState.fok : FOk Try.prog 23 l_eqState.fi :=
  fokS (E := l_eqState.E) (wy := ⟨[[none]], [[], []], []⟩) (h := (fun gs => .a)) (G := fun t g => l_eqState.F (fun y0 => g y0) t.1.1 t.1.2.1 t.1.2.2.1 t.2.1.1 t.2.1.2.1 t.2.1.2.2.1) (by kernel_rfl) l_eqState.hE Try.func23 (by kernel_rfl) rfl (Nat.le_refl _) (fun t => HintOk.n1 (by kernel_rfl) (l_eqState.hok l_eqState.hE)) (fun t g => l_eqState_nat g t.1.1 t.1.2.1 t.1.2.2.1 t.2.1.1 t.2.1.2.1 t.2.1.2.2.1) (fun t => by kernel_rfl)
/-! loop.example_g00220_laws.markText -/
def l_markText.l1 {R : Type} (kke0 : ByteArray → Option R) : Nat → Int → ByteArray → Option R
  | 0, _, _ => none
  | n + 1, k_, out =>
    cond (decide (k_ > (0 : Int))) (
      grd (gNz (10 : Int)) <|
      grd (gCat (strL [IntKind.wrap .u8 (IntKind.wrap .i64 ((48 : Int) + (Int.tmod k_ (10 : Int))))]) out) <|
      grd (gNz (10 : Int)) <|
      l_markText.l1 kke0 n (IntKind.wrap .i64 (Int.tdiv k_ (10 : Int))) ((strL [IntKind.wrap .u8 (IntKind.wrap .i64 ((48 : Int) + (Int.tmod k_ (10 : Int))))]) ++ out)) (kke0 out)
theorem l_markText.l1_nat {R S : Type} (g : R → Option S) (kke0 : ByteArray → Option R) : ∀ (n : Nat) (k_ : Int) (out : ByteArray), l_markText.l1 (fun y0 => (kke0 y0).bind g) n k_ out = (l_markText.l1 kke0 n k_ out).bind g := by
  intro n
  induction n with
  | zero => intros; rfl
  | succ n ih => intros; simp only [l_markText.l1, grd_bind, cnd_bind, bnd_bind, non_bind, ih]
def l_markText.F {R : Type} (kk : ByteArray → Option R) (k_ : Int) : Option R :=
  cond (decide (k_ ≤ (0 : Int))) (kk (⟨#[109, 48]⟩ : ByteArray)) (
    l_markText.l1 (fun out =>
      grd (gCat (⟨#[109]⟩ : ByteArray) out) <|
      kk ((⟨#[109]⟩ : ByteArray) ++ out)) fuel k_ ByteArray.empty)
theorem l_markText.F_nat {R S : Type} (g : R → Option S) (kk : ByteArray → Option R) (k_ : Int) : l_markText.F (fun y0 => (kk y0).bind g) k_ = (l_markText.F kk k_).bind g := by
  simp only [l_markText.F, grd_bind, cnd_bind, bnd_bind, non_bind, ← l_markText.l1_nat]
def l_markText (k_ : Int) : Option ByteArray := l_markText.F (fun y0 => some y0) k_
theorem l_markText_nat {S : Type} (g : ByteArray → Option S) (k_ : Int) : l_markText.F (fun y0 => g y0) k_ = (l_markText k_).bind g := l_markText.F_nat g (fun y0 => some y0) k_
def l_markText.out : ByteArray → CRes := fun a => ⟨encL SV.enc [.one (.str)] (a, ()), [encL SC.enc [] ()]⟩
def l_markText.ps : List PS := [.val [none]]
def l_markText.sA : List SA := [.v (.one (.int .i64))]
def l_markText.fi : FI := FIs l_markText.sA (ByteArray) (fun t => l_markText t.1) l_markText.out l_markText.ps
def l_markText.E : Env := ⟨tt, lkF [], 20, 0, [], []⟩
def l_markText.sh1 : SK := ⟨[.v (.one (.int .i64)), .v (.one (.str))], []⟩
def l_markText.sh1e0 : SK := ⟨[.v (.one (.str))], []⟩
def l_markText.ko1 : Ex → List CastAt × List Nat
  | .nrm => ([], [])
  | .ret => ([], [])
  | .ext i => cond (Nat.beq i 0) ([], [3]) ([], [])
def l_markText.G1 (n : Nat) (R : Type) (t : l_markText.sh1.T) (K : Ex → Kp → Option R) : Option R := l_markText.l1 (fun y0 => K (.ext 0) (SK.enc l_markText.sh1e0 ((y0, ()), ()))) n t.1.1 t.1.2.1
def l_markText.S1 : Sum := ⟨([], [0, 3]), sumF l_markText.sh1 (l_markText.G1 fuel), l_markText.ko1⟩
theorem l_markText.ok1 (hE : EOk Try.prog (l_markText.E)) : SumOk Try.prog l_markText.E (cB (cL (cR (cR (cR (bodyOf Try.f65)))))) (l_markText.S1) := by
  have hh : HintOk Try.prog l_markText.E (cB (cB (cL (cR (cR (cR (bodyOf Try.f65))))))) (.a) := HintOk.n1 (Q := True) (by kernel_rfl) trivial
  have h := loopS (kin := ([], [0, 3])) (kout := l_markText.ko1) (sh := l_markText.sh1) (F := l_markText.G1) (ops_ok (hE.gv _)) (by kernel_rfl) hh (fun _ _ _ => rfl) (fun n R t K => by kernel_rfl) fuel
  exact HintOk.n1 (c := (cB (cL (cR (cR (cR (bodyOf Try.f65))))))) (h := .s (l_markText.S1)) (P := Try.prog) (E := l_markText.E) (by kernel_rfl) h
theorem l_markText.hok (hE : EOk Try.prog (l_markText.E)) : HintOk Try.prog l_markText.E (bodyOf Try.f65) (.n (.a) (.n (.a) (.n (.a) (.n (.b (.s (l_markText.S1))) (.a))))) := HintOk.n1 (Q := (True) ∧ ((True) ∧ ((True) ∧ ((SumOk Try.prog l_markText.E (cB (cL (cR (cR (cR (bodyOf Try.f65)))))) (l_markText.S1)) ∧ (True))))) (by kernel_rfl) ⟨trivial, ⟨trivial, ⟨trivial, ⟨(l_markText.ok1 hE), trivial⟩⟩⟩⟩
theorem l_markText.hE : EOk Try.prog (l_markText.E) := EOk.of ttOk (trivial)
theorem l_markText.fok : FOk Try.prog 65 l_markText.fi :=
  fokS (E := l_markText.E) (wy := ⟨[[none]], [[]], []⟩) (h := (fun gs => .n (.a) (.n (.a) (.n (.a) (.n (.b (.s (l_markText.S1))) (.a)))))) (G := fun t g => l_markText.F (fun y0 => g y0) t.1) (by kernel_rfl) l_markText.hE Try.func65 (by kernel_rfl) rfl (Nat.le_refl _) (fun t => HintOk.n1 (by kernel_rfl) (l_markText.hok l_markText.hE)) (fun t g => l_markText_nat g t.1) (fun t => by kernel_rfl)
/-! loop.example_g00220_laws.markStringS -/
def l_markStringS.l1 {R : Type} (kke0 : Int → List ByteArray → Option R) : Nat → Int → Int → List ByteArray → Option R
  | 0, _, _, _ => none
  | n + 1, k_, i, a =>
    cond (decide (i < (List.length a : Int))) (
      (l_markText k_).bind fun r =>
      grd (gIx i (List.length a)) <|
      l_markStringS.l1 kke0 n (IntKind.wrap .i64 (k_ + (1 : Int))) (IntKind.wrap .i64 (i + (1 : Int))) (setE (.str : Kd) a (Int.toNat i) r)) (kke0 k_ a)
theorem l_markStringS.l1_nat {R S : Type} (g : R → Option S) (kke0 : Int → List ByteArray → Option R) : ∀ (n : Nat) (k_ : Int) (i : Int) (a : List ByteArray), l_markStringS.l1 (fun y0 y1 => (kke0 y0 y1).bind g) n k_ i a = (l_markStringS.l1 kke0 n k_ i a).bind g := by
  intro n
  induction n with
  | zero => intros; rfl
  | succ n ih => intros; simp only [l_markStringS.l1, grd_bind, cnd_bind, bnd_bind, non_bind, ih]
def l_markStringS.F {R : Type} (kk : Int → List ByteArray → Option R) (a : List ByteArray) (k_ : Int) : Option R :=
  l_markStringS.l1 (fun k_1 a1 => kk k_1 a1) fuel k_ (0 : Int) a
theorem l_markStringS.F_nat {R S : Type} (g : R → Option S) (kk : Int → List ByteArray → Option R) (a : List ByteArray) (k_ : Int) : l_markStringS.F (fun y0 y1 => (kk y0 y1).bind g) a k_ = (l_markStringS.F kk a k_).bind g := by
  simp only [l_markStringS.F, grd_bind, cnd_bind, bnd_bind, non_bind, ← l_markStringS.l1_nat]
def l_markStringS (a : List ByteArray) (k_ : Int) : Option (Int × List ByteArray) := l_markStringS.F (fun y0 y1 => some (y0, y1)) a k_
theorem l_markStringS_nat {S : Type} (g : (Int × List ByteArray) → Option S) (a : List ByteArray) (k_ : Int) : l_markStringS.F (fun y0 y1 => g (y0, y1)) a k_ = (l_markStringS a k_).bind g := l_markStringS.F_nat g (fun y0 y1 => some (y0, y1)) a k_
def l_markStringS.out : (Int × List ByteArray) → CRes := fun a => ⟨encL SV.enc [.one (.int .i64)] (a.1, ()), [encL SC.enc [.own [] .str true] (a.2, ()), encL SC.enc [] ()]⟩
def l_markStringS.ps : List PS := [.val [some (.str, true)], .val [none]]
def l_markStringS.sA : List SA := [.v (.one (.own [] .str true)), .v (.one (.int .i64))]
def l_markStringS.fi : FI := FIs l_markStringS.sA (Int × List ByteArray) (fun t => l_markStringS t.1 t.2.1) l_markStringS.out l_markStringS.ps
def l_markStringS.E : Env := ⟨tt, lkF [(65, l_markText.fi)], 20, 1, [], []⟩
def l_markStringS.sh1 : SK := ⟨[.v (.one (.slo 0)), .v (.one (.int .i64)), .v (.one (.int .i64))], [.arr .str [] true]⟩
def l_markStringS.sh1e0 : SK := ⟨[.v (.one (.int .i64))], [.arr .str [] true]⟩
def l_markStringS.ko1 : Ex → List CastAt × List Nat
  | .nrm => ([], [])
  | .ret => ([], [])
  | .ext i => cond (Nat.beq i 0) ([], [1]) ([], [])
def l_markStringS.G1 (n : Nat) (R : Type) (t : l_markStringS.sh1.T) (K : Ex → Kp → Option R) : Option R := l_markStringS.l1 (fun y0 y1 => K (.ext 0) (SK.enc l_markStringS.sh1e0 ((y0, ()), (y1, ())))) n t.1.2.1 t.1.2.2.1 t.2.1
def l_markStringS.S1 : Sum := ⟨([], [0, 1, 5]), sumF l_markStringS.sh1 (l_markStringS.G1 fuel), l_markStringS.ko1⟩
theorem l_markStringS.ok1 (hE : EOk Try.prog (l_markStringS.E)) : SumOk Try.prog l_markStringS.E (cB (cR (cL (cR (bodyOf Try.f25))))) (l_markStringS.S1) := by
  have hh : HintOk Try.prog l_markStringS.E (cB (cB (cR (cL (cR (bodyOf Try.f25)))))) (.a) := HintOk.n1 (Q := True) (by kernel_rfl) trivial
  have h := loopS (kin := ([], [0, 1, 5])) (kout := l_markStringS.ko1) (sh := l_markStringS.sh1) (F := l_markStringS.G1) (ops_ok (hE.gv _)) (by kernel_rfl) hh (fun _ _ _ => rfl) (fun n R t K => by kernel_rfl) fuel
  exact HintOk.n1 (c := (cB (cR (cL (cR (bodyOf Try.f25)))))) (h := .s (l_markStringS.S1)) (P := Try.prog) (E := l_markStringS.E) (by kernel_rfl) h
theorem l_markStringS.hok (hE : EOk Try.prog (l_markStringS.E)) : HintOk Try.prog l_markStringS.E (bodyOf Try.f25) (.n (.a) (.n (.n (.a) (.b (.s (l_markStringS.S1)))) (.a))) := HintOk.n1 (Q := (True) ∧ (((True) ∧ (SumOk Try.prog l_markStringS.E (cB (cR (cL (cR (bodyOf Try.f25))))) (l_markStringS.S1))) ∧ (True))) (by kernel_rfl) ⟨trivial, ⟨⟨trivial, (l_markStringS.ok1 hE)⟩, trivial⟩⟩
theorem l_markStringS.hE : EOk Try.prog (l_markStringS.E) := EOk.of ttOk (⟨l_markText.fok, trivial⟩)
theorem l_markStringS.fok : FOk Try.prog 25 l_markStringS.fi :=
  fokS (E := l_markStringS.E) (wy := ⟨[[none]], [[], []], []⟩) (h := (fun gs => .n (.a) (.n (.n (.a) (.b (.s (l_markStringS.S1)))) (.a)))) (G := fun t g => l_markStringS.F (fun y0 y1 => g (y0, y1)) t.1 t.2.1) (by kernel_rfl) l_markStringS.hE Try.func25 (by kernel_rfl) rfl (Nat.le_refl _) (fun t => HintOk.n1 (by kernel_rfl) (l_markStringS.hok l_markStringS.hE)) (fun t g => l_markStringS_nat g t.1 t.2.1) (fun t => by kernel_rfl)
/-! loop.example_g00220_laws.markEntryS -/
def l_markEntryS.l1 {R : Type} (kke0 : Int → List (El kEntry) → Option R) : Nat → Int → Int → List (El kEntry) → Option R
  | 0, _, _, _ => none
  | n + 1, k_, i, a =>
    cond (decide (i < (List.length a : Int))) (
      grd (gIx i (List.length a)) <|
      grd (gIx i (List.length (setE kEntry a (Int.toNat i) (k_, (rdE kEntry a (Int.toNat i)).2)))) <|
      (l_markText (IntKind.wrap .i64 ((IntKind.wrap .i64 (k_ + (1 : Int))) + (1 : Int)))).bind fun r =>
      grd (gIx i (List.length (setE kEntry (setE kEntry a (Int.toNat i) (k_, (rdE kEntry a (Int.toNat i)).2)) (Int.toNat i) ((rdE kEntry (setE kEntry a (Int.toNat i) (k_, (rdE kEntry a (Int.toNat i)).2)) (Int.toNat i)).1, (IntKind.wrap .i64 (k_ + (1 : Int)), (rdE kEntry (setE kEntry a (Int.toNat i) (k_, (rdE kEntry a (Int.toNat i)).2)) (Int.toNat i)).2.2))))) <|
      l_markEntryS.l1 kke0 n (IntKind.wrap .i64 ((IntKind.wrap .i64 ((IntKind.wrap .i64 (k_ + (1 : Int))) + (1 : Int))) + (1 : Int))) (IntKind.wrap .i64 (i + (1 : Int))) (setE kEntry (setE kEntry (setE kEntry a (Int.toNat i) (k_, (rdE kEntry a (Int.toNat i)).2)) (Int.toNat i) ((rdE kEntry (setE kEntry a (Int.toNat i) (k_, (rdE kEntry a (Int.toNat i)).2)) (Int.toNat i)).1, (IntKind.wrap .i64 (k_ + (1 : Int)), (rdE kEntry (setE kEntry a (Int.toNat i) (k_, (rdE kEntry a (Int.toNat i)).2)) (Int.toNat i)).2.2))) (Int.toNat i) ((rdE kEntry (setE kEntry (setE kEntry a (Int.toNat i) (k_, (rdE kEntry a (Int.toNat i)).2)) (Int.toNat i) ((rdE kEntry (setE kEntry a (Int.toNat i) (k_, (rdE kEntry a (Int.toNat i)).2)) (Int.toNat i)).1, (IntKind.wrap .i64 (k_ + (1 : Int)), (rdE kEntry (setE kEntry a (Int.toNat i) (k_, (rdE kEntry a (Int.toNat i)).2)) (Int.toNat i)).2.2))) (Int.toNat i)).1, ((rdE kEntry (setE kEntry (setE kEntry a (Int.toNat i) (k_, (rdE kEntry a (Int.toNat i)).2)) (Int.toNat i) ((rdE kEntry (setE kEntry a (Int.toNat i) (k_, (rdE kEntry a (Int.toNat i)).2)) (Int.toNat i)).1, (IntKind.wrap .i64 (k_ + (1 : Int)), (rdE kEntry (setE kEntry a (Int.toNat i) (k_, (rdE kEntry a (Int.toNat i)).2)) (Int.toNat i)).2.2))) (Int.toNat i)).2.1, r)))) (kke0 k_ a)
theorem l_markEntryS.l1_nat {R S : Type} (g : R → Option S) (kke0 : Int → List (El kEntry) → Option R) : ∀ (n : Nat) (k_ : Int) (i : Int) (a : List (El kEntry)), l_markEntryS.l1 (fun y0 y1 => (kke0 y0 y1).bind g) n k_ i a = (l_markEntryS.l1 kke0 n k_ i a).bind g := by
  intro n
  induction n with
  | zero => intros; rfl
  | succ n ih => intros; simp only [l_markEntryS.l1, grd_bind, cnd_bind, bnd_bind, non_bind, ih]
def l_markEntryS.F {R : Type} (kk : Int → List (El kEntry) → Option R) (a : List (El kEntry)) (k_ : Int) : Option R :=
  l_markEntryS.l1 (fun k_1 a1 => kk k_1 a1) fuel k_ (0 : Int) a
theorem l_markEntryS.F_nat {R S : Type} (g : R → Option S) (kk : Int → List (El kEntry) → Option R) (a : List (El kEntry)) (k_ : Int) : l_markEntryS.F (fun y0 y1 => (kk y0 y1).bind g) a k_ = (l_markEntryS.F kk a k_).bind g := by
  simp only [l_markEntryS.F, grd_bind, cnd_bind, bnd_bind, non_bind, ← l_markEntryS.l1_nat]
def l_markEntryS (a : List (El kEntry)) (k_ : Int) : Option (Int × List (El kEntry)) := l_markEntryS.F (fun y0 y1 => some (y0, y1)) a k_
theorem l_markEntryS_nat {S : Type} (g : (Int × List (El kEntry)) → Option S) (a : List (El kEntry)) (k_ : Int) : l_markEntryS.F (fun y0 y1 => g (y0, y1)) a k_ = (l_markEntryS a k_).bind g := l_markEntryS.F_nat g (fun y0 y1 => some (y0, y1)) a k_
def l_markEntryS.out : (Int × List (El kEntry)) → CRes := fun a => ⟨encL SV.enc [.one (.int .i64)] (a.1, ()), [encL SC.enc [.own [] kEntry true] (a.2, ()), encL SC.enc [] ()]⟩
def l_markEntryS.ps : List PS := [.val [some (kEntry, true)], .val [none]]
def l_markEntryS.sA : List SA := [.v (.one (.own [] kEntry true)), .v (.one (.int .i64))]
def l_markEntryS.fi : FI := FIs l_markEntryS.sA (Int × List (El kEntry)) (fun t => l_markEntryS t.1 t.2.1) l_markEntryS.out l_markEntryS.ps
def l_markEntryS.E : Env := ⟨tt, lkF [(65, l_markText.fi)], 35, 1, [], []⟩
def l_markEntryS.sh1 : SK := ⟨[.v (.one (.slo 0)), .v (.one (.int .i64)), .v (.one (.int .i64))], [.arr kEntry [] true]⟩
def l_markEntryS.sh1e0 : SK := ⟨[.v (.one (.int .i64))], [.arr kEntry [] true]⟩
def l_markEntryS.ko1 : Ex → List CastAt × List Nat
  | .nrm => ([], [])
  | .ret => ([], [])
  | .ext i => cond (Nat.beq i 0) ([], [1]) ([], [])
def l_markEntryS.G1 (n : Nat) (R : Type) (t : l_markEntryS.sh1.T) (K : Ex → Kp → Option R) : Option R := l_markEntryS.l1 (fun y0 y1 => K (.ext 0) (SK.enc l_markEntryS.sh1e0 ((y0, ()), (y1, ())))) n t.1.2.1 t.1.2.2.1 t.2.1
def l_markEntryS.S1 : Sum := ⟨([], [0, 1, 5]), sumF l_markEntryS.sh1 (l_markEntryS.G1 fuel), l_markEntryS.ko1⟩
theorem l_markEntryS.ok1 (hE : EOk Try.prog (l_markEntryS.E)) : SumOk Try.prog l_markEntryS.E (cB (cR (cL (cR (bodyOf Try.f66))))) (l_markEntryS.S1) := by
  have hh : HintOk Try.prog l_markEntryS.E (cB (cB (cR (cL (cR (bodyOf Try.f66)))))) (.a) := HintOk.n1 (Q := True) (by kernel_rfl) trivial
  have h := loopS (kin := ([], [0, 1, 5])) (kout := l_markEntryS.ko1) (sh := l_markEntryS.sh1) (F := l_markEntryS.G1) (ops_ok (hE.gv _)) (by kernel_rfl) hh (fun _ _ _ => rfl) (fun n R t K => by kernel_rfl) fuel
  exact HintOk.n1 (c := (cB (cR (cL (cR (bodyOf Try.f66)))))) (h := .s (l_markEntryS.S1)) (P := Try.prog) (E := l_markEntryS.E) (by kernel_rfl) h
theorem l_markEntryS.hok (hE : EOk Try.prog (l_markEntryS.E)) : HintOk Try.prog l_markEntryS.E (bodyOf Try.f66) (.n (.a) (.n (.n (.a) (.b (.s (l_markEntryS.S1)))) (.a))) := HintOk.n1 (Q := (True) ∧ (((True) ∧ (SumOk Try.prog l_markEntryS.E (cB (cR (cL (cR (bodyOf Try.f66))))) (l_markEntryS.S1))) ∧ (True))) (by kernel_rfl) ⟨trivial, ⟨⟨trivial, (l_markEntryS.ok1 hE)⟩, trivial⟩⟩
theorem l_markEntryS.hE : EOk Try.prog (l_markEntryS.E) := EOk.of ttOk (⟨l_markText.fok, trivial⟩)
theorem l_markEntryS.fok : FOk Try.prog 66 l_markEntryS.fi :=
  fokS (E := l_markEntryS.E) (wy := ⟨[[none]], [[], []], []⟩) (h := (fun gs => .n (.a) (.n (.n (.a) (.b (.s (l_markEntryS.S1)))) (.a)))) (G := fun t g => l_markEntryS.F (fun y0 y1 => g (y0, y1)) t.1 t.2.1) (by kernel_rfl) l_markEntryS.hE Try.func66 (by kernel_rfl) rfl (Nat.le_refl _) (fun t => HintOk.n1 (by kernel_rfl) (l_markEntryS.hok l_markEntryS.hE)) (fun t g => l_markEntryS_nat g t.1 t.2.1) (fun t => by kernel_rfl)
/-! loop.example_g00220_laws.markState -/
def l_markState.F {R : Type} (kk : Int → List (El kEntry) → Option R) (a_Term : Int) (a_Vote : Int) (a_Log : List (El kEntry)) (k_ : Int) : Option R :=
  (l_markEntryS a_Log k_).bind fun r =>
  kk r.1 r.2
theorem l_markState.F_nat {R S : Type} (g : R → Option S) (kk : Int → List (El kEntry) → Option R) (a_Term : Int) (a_Vote : Int) (a_Log : List (El kEntry)) (k_ : Int) : l_markState.F (fun y0 y1 => (kk y0 y1).bind g) a_Term a_Vote a_Log k_ = (l_markState.F kk a_Term a_Vote a_Log k_).bind g := by
  simp only [l_markState.F, grd_bind, cnd_bind, bnd_bind, non_bind]
def l_markState (a_Term : Int) (a_Vote : Int) (a_Log : List (El kEntry)) (k_ : Int) : Option (Int × List (El kEntry)) := l_markState.F (fun y0 y1 => some (y0, y1)) a_Term a_Vote a_Log k_
theorem l_markState_nat {S : Type} (g : (Int × List (El kEntry)) → Option S) (a_Term : Int) (a_Vote : Int) (a_Log : List (El kEntry)) (k_ : Int) : l_markState.F (fun y0 y1 => g (y0, y1)) a_Term a_Vote a_Log k_ = (l_markState a_Term a_Vote a_Log k_).bind g := l_markState.F_nat g (fun y0 y1 => some (y0, y1)) a_Term a_Vote a_Log k_
def l_markState.out : (Int × List (El kEntry)) → CRes := fun a => ⟨encL SV.enc [.one (.int .i64)] (a.1, ()), [encL SC.enc [.own [] kEntry true] (a.2, ()), encL SC.enc [] ()]⟩
def l_markState.ps : List PS := [.val [none, none, some (kEntry, true)], .val [none]]
def l_markState.sA : List SA := [.v (.agg [.int .i64, .int .i64, .own [] kEntry true]), .v (.one (.int .i64))]
def l_markState.fi : FI := FIs l_markState.sA (Int × List (El kEntry)) (fun t => l_markState t.1.1 t.1.2.1 t.1.2.2.1 t.2.1) l_markState.out l_markState.ps
def l_markState.E : Env := ⟨tt, lkF [(66, l_markEntryS.fi)], 10, 1, [], []⟩
theorem l_markState.hok (hE : EOk Try.prog (l_markState.E)) : HintOk Try.prog l_markState.E (bodyOf Try.f26) (.a) := HintOk.n1 (Q := True) (by kernel_rfl) trivial
theorem l_markState.hE : EOk Try.prog (l_markState.E) := EOk.of ttOk (⟨l_markEntryS.fok, trivial⟩)
theorem l_markState.fok : FOk Try.prog 26 l_markState.fi :=
  fokS (E := l_markState.E) (wy := ⟨[[none]], [[], []], []⟩) (h := (fun gs => .a)) (G := fun t g => l_markState.F (fun y0 y1 => g (y0, y1)) t.1.1 t.1.2.1 t.1.2.2.1 t.2.1) (by kernel_rfl) l_markState.hE Try.func26 (by kernel_rfl) rfl (Nat.le_refl _) (fun t => HintOk.n1 (by kernel_rfl) (l_markState.hok l_markState.hE)) (fun t g => l_markState_nat g t.1.1 t.1.2.1 t.1.2.2.1 t.2.1) (fun t => by kernel_rfl)
/-! loop.example_g00220_laws.heldEntryS -/
def l_heldEntryS.l1 {R : Type} (kke0 : Int → Option R) (kkr : Int → Option R) : Nat → List (El kEntry) → Int → Int → Option R
  | 0, _, _, _ => none
  | n + 1, a, k_, i =>
    cond (decide (i < (List.length a : Int))) (
      grd (gIx i (List.length a)) <|
      cond ((rdE kEntry a (Int.toNat i)).1 != k_) (kkr (-1 : Int)) (
        grd (gIx i (List.length a)) <|
        cond ((rdE kEntry a (Int.toNat i)).2.1 != (IntKind.wrap .i64 (k_ + (1 : Int)))) (kkr (-1 : Int)) (
          grd (gIx i (List.length a)) <|
          (l_markText (IntKind.wrap .i64 ((IntKind.wrap .i64 (k_ + (1 : Int))) + (1 : Int)))).bind fun r =>
          cond (!(sEq (rdE kEntry a (Int.toNat i)).2.2 r)) (kkr (-1 : Int)) (
            l_heldEntryS.l1 kke0 kkr n a (IntKind.wrap .i64 ((IntKind.wrap .i64 ((IntKind.wrap .i64 (k_ + (1 : Int))) + (1 : Int))) + (1 : Int))) (IntKind.wrap .i64 (i + (1 : Int))))))) (kke0 k_)
theorem l_heldEntryS.l1_nat {R S : Type} (g : R → Option S) (kke0 : Int → Option R) (kkr : Int → Option R) : ∀ (n : Nat) (a : List (El kEntry)) (k_ : Int) (i : Int), l_heldEntryS.l1 (fun y0 => (kke0 y0).bind g) (fun y0 => (kkr y0).bind g) n a k_ i = (l_heldEntryS.l1 kke0 kkr n a k_ i).bind g := by
  intro n
  induction n with
  | zero => intros; rfl
  | succ n ih => intros; simp only [l_heldEntryS.l1, grd_bind, cnd_bind, bnd_bind, non_bind, ih]
def l_heldEntryS.F {R : Type} (kk : Int → Option R) (a : List (El kEntry)) (k_ : Int) : Option R :=
  l_heldEntryS.l1 (fun k_1 => kk k_1) (fun i => kk i) fuel a k_ (0 : Int)
theorem l_heldEntryS.F_nat {R S : Type} (g : R → Option S) (kk : Int → Option R) (a : List (El kEntry)) (k_ : Int) : l_heldEntryS.F (fun y0 => (kk y0).bind g) a k_ = (l_heldEntryS.F kk a k_).bind g := by
  simp only [l_heldEntryS.F, grd_bind, cnd_bind, bnd_bind, non_bind, ← l_heldEntryS.l1_nat]
def l_heldEntryS (a : List (El kEntry)) (k_ : Int) : Option Int := l_heldEntryS.F (fun y0 => some y0) a k_
theorem l_heldEntryS_nat {S : Type} (g : Int → Option S) (a : List (El kEntry)) (k_ : Int) : l_heldEntryS.F (fun y0 => g y0) a k_ = (l_heldEntryS a k_).bind g := l_heldEntryS.F_nat g (fun y0 => some y0) a k_
def l_heldEntryS.out : Int → CRes := fun a => ⟨encL SV.enc [.one (.int .i64)] (a, ()), [encL SC.enc [] (), encL SC.enc [] ()]⟩
def l_heldEntryS.ps : List PS := [.val [some (kEntry, false)], .val [none]]
def l_heldEntryS.sA : List SA := [.v (.one (.slv [] kEntry)), .v (.one (.int .i64))]
def l_heldEntryS.fi : FI := FIs l_heldEntryS.sA (Int) (fun t => l_heldEntryS t.1 t.2.1) l_heldEntryS.out l_heldEntryS.ps
def l_heldEntryS.E : Env := ⟨tt, lkF [(65, l_markText.fi)], 41, 0, [], []⟩
def l_heldEntryS.sh1 : SK := ⟨[.v (.one (.slv [1] kEntry)), .v (.one (.int .i64)), .v (.one (.int .i64))], []⟩
def l_heldEntryS.sh1e0 : SK := ⟨[.v (.one (.int .i64))], []⟩
def l_heldEntryS.sh1r : SK := ⟨[.v (.one (.int .i64))], []⟩
def l_heldEntryS.ko1 : Ex → List CastAt × List Nat
  | .nrm => ([], [])
  | .ret => ([], [4])
  | .ext i => cond (Nat.beq i 0) ([], [1]) ([], [])
def l_heldEntryS.G1 (n : Nat) (R : Type) (t : l_heldEntryS.sh1.T) (K : Ex → Kp → Option R) : Option R := l_heldEntryS.l1 (fun y0 => K (.ext 0) (SK.enc l_heldEntryS.sh1e0 ((y0, ()), ()))) (fun y0 => K .ret (SK.enc l_heldEntryS.sh1r ((y0, ()), ()))) n t.1.1 t.1.2.1 t.1.2.2.1
def l_heldEntryS.S1 : Sum := ⟨([], [0, 1, 5]), sumF l_heldEntryS.sh1 (l_heldEntryS.G1 fuel), l_heldEntryS.ko1⟩
theorem l_heldEntryS.ok1 (hE : EOk Try.prog (l_heldEntryS.E)) : SumOk Try.prog l_heldEntryS.E (cB (cR (cL (cR (bodyOf Try.f67))))) (l_heldEntryS.S1) := by
  have hh : HintOk Try.prog l_heldEntryS.E (cB (cB (cR (cL (cR (bodyOf Try.f67)))))) (.a) := HintOk.n1 (Q := True) (by kernel_rfl) trivial
  have h := loopS (kin := ([], [0, 1, 5])) (kout := l_heldEntryS.ko1) (sh := l_heldEntryS.sh1) (F := l_heldEntryS.G1) (ops_ok (hE.gv _)) (by kernel_rfl) hh (fun _ _ _ => rfl) (fun n R t K => by kernel_rfl) fuel
  exact HintOk.n1 (c := (cB (cR (cL (cR (bodyOf Try.f67)))))) (h := .s (l_heldEntryS.S1)) (P := Try.prog) (E := l_heldEntryS.E) (by kernel_rfl) h
theorem l_heldEntryS.hok (hE : EOk Try.prog (l_heldEntryS.E)) : HintOk Try.prog l_heldEntryS.E (bodyOf Try.f67) (.n (.a) (.n (.n (.a) (.b (.s (l_heldEntryS.S1)))) (.a))) := HintOk.n1 (Q := (True) ∧ (((True) ∧ (SumOk Try.prog l_heldEntryS.E (cB (cR (cL (cR (bodyOf Try.f67))))) (l_heldEntryS.S1))) ∧ (True))) (by kernel_rfl) ⟨trivial, ⟨⟨trivial, (l_heldEntryS.ok1 hE)⟩, trivial⟩⟩
theorem l_heldEntryS.hE : EOk Try.prog (l_heldEntryS.E) := EOk.of ttOk (⟨l_markText.fok, trivial⟩)
theorem l_heldEntryS.fok : FOk Try.prog 67 l_heldEntryS.fi :=
  fokS (E := l_heldEntryS.E) (wy := ⟨[[none]], [[], []], []⟩) (h := (fun gs => .n (.a) (.n (.n (.a) (.b (.s (l_heldEntryS.S1)))) (.a)))) (G := fun t g => l_heldEntryS.F (fun y0 => g y0) t.1 t.2.1) (by kernel_rfl) l_heldEntryS.hE Try.func67 (by kernel_rfl) rfl (Nat.le_refl _) (fun t => HintOk.n1 (by kernel_rfl) (l_heldEntryS.hok l_heldEntryS.hE)) (fun t g => l_heldEntryS_nat g t.1 t.2.1) (fun t => by kernel_rfl)
/-! loop.example_g00220_laws.heldState -/
def l_heldState.F {R : Type} (kk : Int → Option R) (a_Term : Int) (a_Vote : Int) (a_Log : List (El kEntry)) (k_ : Int) : Option R :=
  (l_heldEntryS a_Log k_).bind fun r =>
  cond (decide (r < (0 : Int))) (kk (-1 : Int)) (kk r)
theorem l_heldState.F_nat {R S : Type} (g : R → Option S) (kk : Int → Option R) (a_Term : Int) (a_Vote : Int) (a_Log : List (El kEntry)) (k_ : Int) : l_heldState.F (fun y0 => (kk y0).bind g) a_Term a_Vote a_Log k_ = (l_heldState.F kk a_Term a_Vote a_Log k_).bind g := by
  simp only [l_heldState.F, grd_bind, cnd_bind, bnd_bind, non_bind]
def l_heldState (a_Term : Int) (a_Vote : Int) (a_Log : List (El kEntry)) (k_ : Int) : Option Int := l_heldState.F (fun y0 => some y0) a_Term a_Vote a_Log k_
theorem l_heldState_nat {S : Type} (g : Int → Option S) (a_Term : Int) (a_Vote : Int) (a_Log : List (El kEntry)) (k_ : Int) : l_heldState.F (fun y0 => g y0) a_Term a_Vote a_Log k_ = (l_heldState a_Term a_Vote a_Log k_).bind g := l_heldState.F_nat g (fun y0 => some y0) a_Term a_Vote a_Log k_
def l_heldState.out : Int → CRes := fun a => ⟨encL SV.enc [.one (.int .i64)] (a, ()), [encL SC.enc [] (), encL SC.enc [] ()]⟩
def l_heldState.ps : List PS := [.val [none, none, some (kEntry, false)], .val [none]]
def l_heldState.sA : List SA := [.v (.agg [.int .i64, .int .i64, .slv [] kEntry]), .v (.one (.int .i64))]
def l_heldState.fi : FI := FIs l_heldState.sA (Int) (fun t => l_heldState t.1.1 t.1.2.1 t.1.2.2.1 t.2.1) l_heldState.out l_heldState.ps
def l_heldState.E : Env := ⟨tt, lkF [(67, l_heldEntryS.fi)], 12, 0, [], []⟩
theorem l_heldState.hok (hE : EOk Try.prog (l_heldState.E)) : HintOk Try.prog l_heldState.E (bodyOf Try.f27) (.a) := HintOk.n1 (Q := True) (by kernel_rfl) trivial
theorem l_heldState.hE : EOk Try.prog (l_heldState.E) := EOk.of ttOk (⟨l_heldEntryS.fok, trivial⟩)
theorem l_heldState.fok : FOk Try.prog 27 l_heldState.fi :=
  fokS (E := l_heldState.E) (wy := ⟨[[none]], [[], []], []⟩) (h := (fun gs => .a)) (G := fun t g => l_heldState.F (fun y0 => g y0) t.1.1 t.1.2.1 t.1.2.2.1 t.2.1) (by kernel_rfl) l_heldState.hE Try.func27 (by kernel_rfl) rfl (Nat.le_refl _) (fun t => HintOk.n1 (by kernel_rfl) (l_heldState.hok l_heldState.hE)) (fun t g => l_heldState_nat g t.1.1 t.1.2.1 t.1.2.2.1 t.2.1) (fun t => by kernel_rfl)
/-! loop.example_g00220_laws.FnExactFoldRecords -/
def l_FnExactFoldRecords.F {R : Type} (kk : Bool → Option R) (aList : List ByteArray) : Option R :=
  (l_szStringS aList (1048576 : Int)).bind fun r =>
  cond (decide (r < (0 : Int))) (kk true) (
    (l_toStringS aList).bind fun r1 =>
    (s_FoldRecords r1).bind fun r2 =>
    (l_toStringS aList).bind fun r3 =>
    (i_FoldRecords r3).bind fun r4 =>
    (l_eqState r4.1 r4.2.1 r4.2.2.1 r2.1 r2.2.1 r2.2.2.1).bind fun r5 =>
    cond (!r5) (kk false) (
      cond (r4.2.2.2 != r2.2.2.2) (kk false) (
        (l_toStringS aList).bind fun r6 =>
        (l_eqStringS r3 r6).bind fun r7 =>
        cond (!r7) (kk false) (
          (l_markStringS r3 (1 : Int)).bind fun r8 =>
          cond (decide (r8.1 < (0 : Int))) (kk false) (
            (l_eqState r4.1 r4.2.1 r4.2.2.1 r2.1 r2.2.1 r2.2.2.1).bind fun r9 =>
            cond (!r9) (kk false) (
              cond (r4.2.2.2 != r2.2.2.2) (kk false) (
                (l_markState r4.1 r4.2.1 r4.2.2.1 (1 : Int)).bind fun r10 =>
                (l_heldState r4.1 r4.2.1 r10.2 (1 : Int)).bind fun r11 =>
                cond (decide (r11 < (0 : Int))) (kk false) (
                  cond (r11 != r10.1) (kk false) (
                    (l_toStringS aList).bind fun r12 =>
                    (i_FoldRecords r12).bind fun r13 =>
                    (l_eqState r13.1 r13.2.1 r13.2.2.1 r2.1 r2.2.1 r2.2.2.1).bind fun r14 =>
                    cond (!r14) (kk false) (
                      cond (r13.2.2.2 != r2.2.2.2) (kk false) (
                        (l_heldState r4.1 r4.2.1 r10.2 (1 : Int)).bind fun r15 =>
                        cond (decide (r15 < (0 : Int))) (kk false) (cond (r15 != r10.1) (kk false) (kk true)))))))))))))
theorem l_FnExactFoldRecords.F_nat {R S : Type} (g : R → Option S) (kk : Bool → Option R) (aList : List ByteArray) : l_FnExactFoldRecords.F (fun y0 => (kk y0).bind g) aList = (l_FnExactFoldRecords.F kk aList).bind g := by
  simp only [l_FnExactFoldRecords.F, grd_bind, cnd_bind, bnd_bind, non_bind]
def l_FnExactFoldRecords (aList : List ByteArray) : Option Bool := l_FnExactFoldRecords.F (fun y0 => some y0) aList
theorem l_FnExactFoldRecords_nat {S : Type} (g : Bool → Option S) (aList : List ByteArray) : l_FnExactFoldRecords.F (fun y0 => g y0) aList = (l_FnExactFoldRecords aList).bind g := l_FnExactFoldRecords.F_nat g (fun y0 => some y0) aList
def l_FnExactFoldRecords.out : Bool → CRes := fun a => ⟨encL SV.enc [.one (.bool)] (a, ()), [encL SC.enc [] ()]⟩
def l_FnExactFoldRecords.ps : List PS := [.val [some (.str, false)]]
def l_FnExactFoldRecords.sA : List SA := [.v (.one (.slv [] .str))]
def l_FnExactFoldRecords.fi : FI := FIs l_FnExactFoldRecords.sA (Bool) (fun t => l_FnExactFoldRecords t.1) l_FnExactFoldRecords.out l_FnExactFoldRecords.ps
def l_FnExactFoldRecords.E : Env := ⟨tt, lkF [(19, l_szStringS.fi), (20, s_FoldRecords.fi), (21, l_toStringS.fi), (22, i_FoldRecords.fi), (23, l_eqState.fi), (24, l_eqStringS.fi), (25, l_markStringS.fi), (26, l_markState.fi), (27, l_heldState.fi)], 96, 0, [], []⟩
theorem l_FnExactFoldRecords.hok (hE : EOk Try.prog (l_FnExactFoldRecords.E)) : HintOk Try.prog l_FnExactFoldRecords.E (bodyOf Try.f4) (.a) := HintOk.n1 (Q := True) (by kernel_rfl) trivial
theorem l_FnExactFoldRecords.hE : EOk Try.prog (l_FnExactFoldRecords.E) := EOk.of ttOk (⟨l_szStringS.fok, ⟨s_FoldRecords.fok, ⟨l_toStringS.fok, ⟨i_FoldRecords.fok, ⟨l_eqState.fok, ⟨l_eqStringS.fok, ⟨l_markStringS.fok, ⟨l_markState.fok, ⟨l_heldState.fok, trivial⟩⟩⟩⟩⟩⟩⟩⟩⟩)
theorem l_FnExactFoldRecords.fok : FOk Try.prog 4 l_FnExactFoldRecords.fi :=
  fokS (E := l_FnExactFoldRecords.E) (wy := ⟨[[none]], [[]], []⟩) (h := (fun gs => .a)) (G := fun t g => l_FnExactFoldRecords.F (fun y0 => g y0) t.1) (by kernel_rfl) l_FnExactFoldRecords.hE Try.func4 (by kernel_rfl) rfl (Nat.le_refl _) (fun t => HintOk.n1 (by kernel_rfl) (l_FnExactFoldRecords.hok l_FnExactFoldRecords.hE)) (fun t g => l_FnExactFoldRecords_nat g t.1) (fun t => by kernel_rfl)
end
end Go.Proofs.YtdpjbeeokimnaaaA
