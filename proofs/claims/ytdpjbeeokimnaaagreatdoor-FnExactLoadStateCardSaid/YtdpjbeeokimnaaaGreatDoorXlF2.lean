/-
  Functions of the program, and that the small machine's runs are these. No condition.
  Printed by wip/amp/main.py (a session's own program) out of Lean's print of the program; Lean's kernel checks it.
-/
import Derived.Test.YtdpjbeeokimnaaaGreatDoorXlF1
namespace Go.Proofs.YtdpjbeeokimnaaaGreatDoorA
open Go
noncomputable section
set_option linter.unusedVariables false
set_option linter.unusedSimpArgs false
set_option maxRecDepth 100000

/-! loop.example_g00220_impl.foldRecords -/
def i_foldRecords.l1 {R : Type} (kke0 : Int → Int → Int → Int → List (El kEntry) → Option R) (kkr : Int → Int → Int → Option R) : Nat → List ByteArray → Int → Int → Int → Int → Int → Int → List (El kEntry) → Option R
  | 0, _, _, _, _, _, _, _, _ => none
  | n + 1, l, i, i1, i2, i3, s, s1, l1 =>
    cond (decide (i1 < i)) (
      grd (gIx i1 (List.length l)) <|
      (i_State_fold s s1 l1 (rdE (.str : Kd) l (Int.toNat i1))).bind fun r =>
      cond (!r.1) (kkr (3 : Int) (0 : Int) (0 : Int)) (
        i_foldRecords.l1 kke0 kkr n l i (IntKind.wrap .i64 (i1 + (1 : Int))) i2 i3 r.2.1 r.2.2.1 r.2.2.2)) (kke0 i2 i3 s s1 l1)
theorem i_foldRecords.l1_nat {R S : Type} (g : R → Option S) (kke0 : Int → Int → Int → Int → List (El kEntry) → Option R) (kkr : Int → Int → Int → Option R) : ∀ (n : Nat) (l : List ByteArray) (i : Int) (i1 : Int) (i2 : Int) (i3 : Int) (s : Int) (s1 : Int) (l1 : List (El kEntry)), i_foldRecords.l1 (fun y0 y1 y2 y3 y4 => (kke0 y0 y1 y2 y3 y4).bind g) (fun y0 y1 y2 => (kkr y0 y1 y2).bind g) n l i i1 i2 i3 s s1 l1 = (i_foldRecords.l1 kke0 kkr n l i i1 i2 i3 s s1 l1).bind g := by
  intro n
  induction n with
  | zero => intros; rfl
  | succ n ih => intros; simp only [i_foldRecords.l1, grd_bind, cnd_bind, bnd_bind, non_bind, ih]
def i_foldRecords.F {R : Type} (kk : Int → Int → List (El kEntry) → Int → Option R) (list : List ByteArray) : Option R :=
  (slices_ContainsFunc_SLstring_string list (fun t => (i_foldRecords_1 t.1).bind fun a => some (a, ()))).bind fun r =>
  cond (r) (kk (0 : Int) (0 : Int) [] (4 : Int)) (
    i_foldRecords.l1 (fun i i1 s s1 l =>
      (i_StateOK s s1 l).bind fun r1 =>
      cond (!r1) (kk (0 : Int) (0 : Int) [] (3 : Int)) (
        (slices_Clone_SLi_Entry_i_Entry l).bind fun r2 =>
        kk s s1 r2 (0 : Int))) (fun i2 i3 i4 => kk i3 i4 [] i2) fuel list (List.length list : Int) (0 : Int) (0 : Int) (0 : Int) (0 : Int) (-1 : Int) [])
theorem i_foldRecords.F_nat {R S : Type} (g : R → Option S) (kk : Int → Int → List (El kEntry) → Int → Option R) (list : List ByteArray) : i_foldRecords.F (fun y0 y1 y2 y3 => (kk y0 y1 y2 y3).bind g) list = (i_foldRecords.F kk list).bind g := by
  simp only [i_foldRecords.F, grd_bind, cnd_bind, bnd_bind, non_bind, ← i_foldRecords.l1_nat]
def i_foldRecords (list : List ByteArray) : Option (Int × Int × List (El kEntry) × Int) := i_foldRecords.F (fun y0 y1 y2 y3 => some (y0, y1, y2, y3)) list
theorem i_foldRecords_nat {S : Type} (g : (Int × Int × List (El kEntry) × Int) → Option S) (list : List ByteArray) : i_foldRecords.F (fun y0 y1 y2 y3 => g (y0, y1, y2, y3)) list = (i_foldRecords list).bind g := i_foldRecords.F_nat g (fun y0 y1 y2 y3 => some (y0, y1, y2, y3)) list
def i_foldRecords.out : (Int × Int × List (El kEntry) × Int) → CRes := fun a => ⟨encL SV.enc [.agg [.int .i64, .int .i64, .own [] kEntry true], .one (.int .i64)] ((a.1, a.2.1, a.2.2.1, ()), a.2.2.2, ()), [encL SC.enc [] ()]⟩
def i_foldRecords.ps : List PS := [.val [some (.str, false)]]
def i_foldRecords.sA : List SA := [.v (.one (.slv [] .str))]
def i_foldRecords.fi : FI := FIs i_foldRecords.sA (Int × Int × List (El kEntry) × Int) (fun t => i_foldRecords t.1) i_foldRecords.out i_foldRecords.ps
def i_foldRecords.E : Env := ⟨tt, lkF [(23, i_StateOK.fi), (92, slices_ContainsFunc_SLstring_string.fi), (93, i_foldRecords_1.fi), (94, i_State_fold.fi), (95, slices_Clone_SLi_Entry_i_Entry.fi)], 34, 0, [], []⟩
def i_foldRecords.sh1 : SK := ⟨[.v (.one (.bptr 0 0)), .v (.one (.bptr 1 0)), .v (.one (.slv [1] .str)), .v (.one (.int .i64)), .v (.one (.int .i64))], [.box [.int .i64, .int .i64, .nil], .box [.int .i64, .int .i64, .slo 2], .arr kEntry [] true]⟩
def i_foldRecords.sh1e0 : SK := ⟨[.v (.one (.bptr 0 0)), .v (.one (.bptr 1 0))], [.box [.int .i64, .int .i64, .nil], .box [.int .i64, .int .i64, .slo 2], .arr kEntry [] true]⟩
def i_foldRecords.sh1r : SK := ⟨[.v (.one (.bptr 0 0)), .v (.one (.int .i64))], [.box [.int .i64, .int .i64, .nil]]⟩
def i_foldRecords.ko1 : Ex → List CastAt × List Nat
  | .nrm => ([], [])
  | .ret => ([], [2, 3])
  | .ext i => cond (Nat.beq i 0) ([], [2, 4]) ([], [])
def i_foldRecords.G1 (n : Nat) (R : Type) (t : i_foldRecords.sh1.T) (K : Ex → Kp → Option R) : Option R := i_foldRecords.l1 (fun y0 y1 y2 y3 y4 => K (.ext 0) (SK.enc i_foldRecords.sh1e0 (((), (), ()), ((y0, y1, (), ()), (y2, y3, (), ()), y4, ())))) (fun y0 y1 y2 => K .ret (SK.enc i_foldRecords.sh1r (((), y0, ()), ((y1, y2, (), ()), ())))) n t.1.2.2.1 t.1.2.2.2.1 t.1.2.2.2.2.1 t.2.1.1 t.2.1.2.1 t.2.2.1.1 t.2.2.1.2.1 t.2.2.2.1
def i_foldRecords.S1 : Sum := ⟨([⟨4, true, 2, .own kEntry⟩], [2, 4, 11, 12, 13]), sumF i_foldRecords.sh1 (i_foldRecords.G1 fuel), i_foldRecords.ko1⟩
theorem i_foldRecords.ok1 (hE : EOk Tryz.prog (i_foldRecords.E)) : SumOk Tryz.prog i_foldRecords.E (cB (cR (cL (cR (cR (cR (bodyOf Tryz.f47))))))) (i_foldRecords.S1) := by
  have hh : HintOk Tryz.prog i_foldRecords.E (cB (cB (cR (cL (cR (cR (cR (bodyOf Tryz.f47)))))))) (.a) := HintOk.n1 (Q := True) (by kernel_rfl) trivial
  have h := loopS (kin := ([⟨4, true, 2, .own kEntry⟩], [2, 4, 11, 12, 13])) (kout := i_foldRecords.ko1) (sh := i_foldRecords.sh1) (F := i_foldRecords.G1) (ops_ok (hE.gv _)) (by kernel_rfl) hh (fun _ _ _ => rfl) (fun n R t K => by kernel_rfl) fuel
  exact HintOk.n1 (c := (cB (cR (cL (cR (cR (cR (bodyOf Tryz.f47)))))))) (h := .s (i_foldRecords.S1)) (P := Tryz.prog) (E := i_foldRecords.E) (by kernel_rfl) h
theorem i_foldRecords.hok (hE : EOk Tryz.prog (i_foldRecords.E)) : HintOk Tryz.prog i_foldRecords.E (bodyOf Tryz.f47) (.n (.a) (.n (.a) (.n (.a) (.n (.n (.a) (.b (.s (i_foldRecords.S1)))) (.a))))) := HintOk.n1 (Q := (True) ∧ ((True) ∧ ((True) ∧ (((True) ∧ (SumOk Tryz.prog i_foldRecords.E (cB (cR (cL (cR (cR (cR (bodyOf Tryz.f47))))))) (i_foldRecords.S1))) ∧ (True))))) (by kernel_rfl) ⟨trivial, ⟨trivial, ⟨trivial, ⟨⟨trivial, (i_foldRecords.ok1 hE)⟩, trivial⟩⟩⟩⟩
theorem i_foldRecords.hE : EOk Tryz.prog (i_foldRecords.E) := EOk.of ttOk (⟨i_StateOK.fok, ⟨slices_ContainsFunc_SLstring_string.fok, ⟨i_foldRecords_1.fok, ⟨i_State_fold.fok, ⟨slices_Clone_SLi_Entry_i_Entry.fok, trivial⟩⟩⟩⟩⟩)
theorem i_foldRecords.fok : FOk Tryz.prog 47 i_foldRecords.fi :=
  fokS (E := i_foldRecords.E) (wy := ⟨[[none, none, some (kEntry, true)], [none]], [[]], []⟩) (h := (fun gs => .n (.a) (.n (.a) (.n (.a) (.n (.n (.a) (.b (.s (i_foldRecords.S1)))) (.a)))))) (G := fun t g => i_foldRecords.F (fun y0 y1 y2 y3 => g (y0, y1, y2, y3)) t.1) (by kernel_rfl) i_foldRecords.hE Tryz.func47 (by kernel_rfl) rfl (Nat.le_refl _) (fun t => HintOk.n1 (by kernel_rfl) (i_foldRecords.hok i_foldRecords.hE)) (fun t g => i_foldRecords_nat g t.1) (fun t => by kernel_rfl)
/-! loop.example_g00220_impl.LoadState -/
def i_LoadState.F {R : Type} (kk : Int → Int → List (El kEntry) → Int → Option R) (d_Room : Int) (d_Files : List (El kFile)) : Option R :=
  (i_WalRead d_Room d_Files).bind fun r =>
  cond (r.2.2.2.2 != (0 : Int)) (kk (0 : Int) (0 : Int) [] r.2.2.2.2) (
    (i_foldRecords r.2.1).bind fun r1 =>
    cond (r1.2.2.2 != (0 : Int)) (kk (0 : Int) (0 : Int) [] (3 : Int)) (kk r1.1 r1.2.1 r1.2.2.1 (0 : Int)))
theorem i_LoadState.F_nat {R S : Type} (g : R → Option S) (kk : Int → Int → List (El kEntry) → Int → Option R) (d_Room : Int) (d_Files : List (El kFile)) : i_LoadState.F (fun y0 y1 y2 y3 => (kk y0 y1 y2 y3).bind g) d_Room d_Files = (i_LoadState.F kk d_Room d_Files).bind g := by
  simp only [i_LoadState.F, grd_bind, cnd_bind, bnd_bind, non_bind]
def i_LoadState (d_Room : Int) (d_Files : List (El kFile)) : Option (Int × Int × List (El kEntry) × Int) := i_LoadState.F (fun y0 y1 y2 y3 => some (y0, y1, y2, y3)) d_Room d_Files
theorem i_LoadState_nat {S : Type} (g : (Int × Int × List (El kEntry) × Int) → Option S) (d_Room : Int) (d_Files : List (El kFile)) : i_LoadState.F (fun y0 y1 y2 y3 => g (y0, y1, y2, y3)) d_Room d_Files = (i_LoadState d_Room d_Files).bind g := i_LoadState.F_nat g (fun y0 y1 y2 y3 => some (y0, y1, y2, y3)) d_Room d_Files
def i_LoadState.out : (Int × Int × List (El kEntry) × Int) → CRes := fun a => ⟨encL SV.enc [.agg [.int .i64, .int .i64, .own [] kEntry true], .one (.int .i64)] ((a.1, a.2.1, a.2.2.1, ()), a.2.2.2, ()), [encL SC.enc [] ()]⟩
def i_LoadState.ps : List PS := [.val [none, some (kFile, false)]]
def i_LoadState.sA : List SA := [.v (.agg [.int .i64, .slv [] kFile])]
def i_LoadState.fi : FI := FIs i_LoadState.sA (Int × Int × List (El kEntry) × Int) (fun t => i_LoadState t.1.1 t.1.2.1) i_LoadState.out i_LoadState.ps
def i_LoadState.E : Env := ⟨tt, lkF [(46, i_WalRead.fi), (47, i_foldRecords.fi)], 26, 0, [], []⟩
theorem i_LoadState.hok (hE : EOk Tryz.prog (i_LoadState.E)) : HintOk Tryz.prog i_LoadState.E (bodyOf Tryz.f10) (.a) := HintOk.n1 (Q := True) (by kernel_rfl) trivial
theorem i_LoadState.hE : EOk Tryz.prog (i_LoadState.E) := EOk.of ttOk (⟨i_WalRead.fok, ⟨i_foldRecords.fok, trivial⟩⟩)
theorem i_LoadState.fok : FOk Tryz.prog 10 i_LoadState.fi :=
  fokS (E := i_LoadState.E) (wy := ⟨[[none, none, some (kEntry, true)], [none]], [[]], []⟩) (h := (fun gs => .a)) (G := fun t g => i_LoadState.F (fun y0 y1 y2 y3 => g (y0, y1, y2, y3)) t.1.1 t.1.2.1) (by kernel_rfl) i_LoadState.hE Tryz.func10 (by kernel_rfl) rfl (Nat.le_refl _) (fun t => HintOk.n1 (by kernel_rfl) (i_LoadState.hok i_LoadState.hE)) (fun t g => i_LoadState_nat g t.1.1 t.1.2.1) (fun t => by kernel_rfl)
/-! loop.example_g00220_laws.eqEntry -/
def l_eqEntry.F {R : Type} (kk : Bool → Option R) (a_Term : Int) (a_Kind : Int) (a_Data : ByteArray) (b_Term : Int) (b_Kind : Int) (b_Data : ByteArray) : Option R :=
  cond (a_Term != b_Term) (kk false) (cond (a_Kind != b_Kind) (kk false) (cond (!(sEq a_Data b_Data)) (kk false) (kk true)))
theorem l_eqEntry.F_nat {R S : Type} (g : R → Option S) (kk : Bool → Option R) (a_Term : Int) (a_Kind : Int) (a_Data : ByteArray) (b_Term : Int) (b_Kind : Int) (b_Data : ByteArray) : l_eqEntry.F (fun y0 => (kk y0).bind g) a_Term a_Kind a_Data b_Term b_Kind b_Data = (l_eqEntry.F kk a_Term a_Kind a_Data b_Term b_Kind b_Data).bind g := by
  simp only [l_eqEntry.F, grd_bind, cnd_bind, bnd_bind, non_bind]
def l_eqEntry (a_Term : Int) (a_Kind : Int) (a_Data : ByteArray) (b_Term : Int) (b_Kind : Int) (b_Data : ByteArray) : Option Bool := l_eqEntry.F (fun y0 => some y0) a_Term a_Kind a_Data b_Term b_Kind b_Data
theorem l_eqEntry_nat {S : Type} (g : Bool → Option S) (a_Term : Int) (a_Kind : Int) (a_Data : ByteArray) (b_Term : Int) (b_Kind : Int) (b_Data : ByteArray) : l_eqEntry.F (fun y0 => g y0) a_Term a_Kind a_Data b_Term b_Kind b_Data = (l_eqEntry a_Term a_Kind a_Data b_Term b_Kind b_Data).bind g := l_eqEntry.F_nat g (fun y0 => some y0) a_Term a_Kind a_Data b_Term b_Kind b_Data
def l_eqEntry.out : Bool → CRes := fun a => ⟨encL SV.enc [.one (.bool)] (a, ()), [encL SC.enc [] (), encL SC.enc [] ()]⟩
def l_eqEntry.ps : List PS := [.val [none, none, none], .val [none, none, none]]
def l_eqEntry.sA : List SA := [.v (.agg [.int .i64, .int .i64, .str]), .v (.agg [.int .i64, .int .i64, .str])]
def l_eqEntry.fi : FI := FIs l_eqEntry.sA (Bool) (fun t => l_eqEntry t.1.1 t.1.2.1 t.1.2.2.1 t.2.1.1 t.2.1.2.1 t.2.1.2.2.1) l_eqEntry.out l_eqEntry.ps
def l_eqEntry.E : Env := ⟨tt, lkF [], 20, 0, [], []⟩
theorem l_eqEntry.hok (hE : EOk Tryz.prog (l_eqEntry.E)) : HintOk Tryz.prog l_eqEntry.E (bodyOf Tryz.f96) (.a) := HintOk.n1 (Q := True) (by kernel_rfl) trivial
theorem l_eqEntry.hE : EOk Tryz.prog (l_eqEntry.E) := EOk.of ttOk (trivial)
theorem l_eqEntry.fok : FOk Tryz.prog 96 l_eqEntry.fi :=
  fokS (E := l_eqEntry.E) (wy := ⟨[[none]], [[], []], []⟩) (h := (fun gs => .a)) (G := fun t g => l_eqEntry.F (fun y0 => g y0) t.1.1 t.1.2.1 t.1.2.2.1 t.2.1.1 t.2.1.2.1 t.2.1.2.2.1) (by kernel_rfl) l_eqEntry.hE Tryz.func96 (by kernel_rfl) rfl (Nat.le_refl _) (fun t => HintOk.n1 (by kernel_rfl) (l_eqEntry.hok l_eqEntry.hE)) (fun t g => l_eqEntry_nat g t.1.1 t.1.2.1 t.1.2.2.1 t.2.1.1 t.2.1.2.1 t.2.1.2.2.1) (fun t => by kernel_rfl)
/-! loop.example_g00220_laws.eqEntryS -/
def l_eqEntryS.l1 {R : Type} (kke0 : Option R) (kkr : Bool → Option R) : Nat → List (El kEntry) → List (El kEntry) → Int → Option R
  | 0, _, _, _ => none
  | n + 1, a, b, i =>
    cond (decide (i < (List.length a : Int))) (
      grd (gIx i (List.length a)) <|
      grd (gIx i (List.length b)) <|
      (l_eqEntry ((rdE kEntry a (Int.toNat i)).1) ((rdE kEntry a (Int.toNat i)).2.1) ((rdE kEntry a (Int.toNat i)).2.2) ((rdE kEntry b (Int.toNat i)).1) ((rdE kEntry b (Int.toNat i)).2.1) ((rdE kEntry b (Int.toNat i)).2.2)).bind fun r =>
      cond (!r) (kkr false) (l_eqEntryS.l1 kke0 kkr n a b (IntKind.wrap .i64 (i + (1 : Int))))) (kke0)
theorem l_eqEntryS.l1_nat {R S : Type} (g : R → Option S) (kke0 : Option R) (kkr : Bool → Option R) : ∀ (n : Nat) (a : List (El kEntry)) (b : List (El kEntry)) (i : Int), l_eqEntryS.l1 (kke0.bind g) (fun y0 => (kkr y0).bind g) n a b i = (l_eqEntryS.l1 kke0 kkr n a b i).bind g := by
  intro n
  induction n with
  | zero => intros; rfl
  | succ n ih => intros; simp only [l_eqEntryS.l1, grd_bind, cnd_bind, bnd_bind, non_bind, ih]
def l_eqEntryS.F {R : Type} (kk : Bool → Option R) (a : List (El kEntry)) (b : List (El kEntry)) : Option R :=
  cond ((List.length a : Int) != (List.length b : Int)) (kk false) (l_eqEntryS.l1 (kk true) (fun b1 => kk b1) fuel a b (0 : Int))
theorem l_eqEntryS.F_nat {R S : Type} (g : R → Option S) (kk : Bool → Option R) (a : List (El kEntry)) (b : List (El kEntry)) : l_eqEntryS.F (fun y0 => (kk y0).bind g) a b = (l_eqEntryS.F kk a b).bind g := by
  simp only [l_eqEntryS.F, grd_bind, cnd_bind, bnd_bind, non_bind, ← l_eqEntryS.l1_nat]
def l_eqEntryS (a : List (El kEntry)) (b : List (El kEntry)) : Option Bool := l_eqEntryS.F (fun y0 => some y0) a b
theorem l_eqEntryS_nat {S : Type} (g : Bool → Option S) (a : List (El kEntry)) (b : List (El kEntry)) : l_eqEntryS.F (fun y0 => g y0) a b = (l_eqEntryS a b).bind g := l_eqEntryS.F_nat g (fun y0 => some y0) a b
def l_eqEntryS.out : Bool → CRes := fun a => ⟨encL SV.enc [.one (.bool)] (a, ()), [encL SC.enc [] (), encL SC.enc [] ()]⟩
def l_eqEntryS.ps : List PS := [.val [some (kEntry, false)], .val [some (kEntry, false)]]
def l_eqEntryS.sA : List SA := [.v (.one (.slv [] kEntry)), .v (.one (.slv [] kEntry))]
def l_eqEntryS.fi : FI := FIs l_eqEntryS.sA (Bool) (fun t => l_eqEntryS t.1 t.2.1) l_eqEntryS.out l_eqEntryS.ps
def l_eqEntryS.E : Env := ⟨tt, lkF [(96, l_eqEntry.fi)], 27, 0, [], []⟩
def l_eqEntryS.sh1 : SK := ⟨[.v (.one (.slv [1] kEntry)), .v (.one (.slv [2] kEntry)), .v (.one (.int .i64))], []⟩
def l_eqEntryS.sh1e0 : SK := ⟨[], []⟩
def l_eqEntryS.sh1r : SK := ⟨[.v (.one (.bool))], []⟩
def l_eqEntryS.ko1 : Ex → List CastAt × List Nat
  | .nrm => ([], [])
  | .ret => ([], [4])
  | .ext i => cond (Nat.beq i 0) ([], []) ([], [])
def l_eqEntryS.G1 (n : Nat) (R : Type) (t : l_eqEntryS.sh1.T) (K : Ex → Kp → Option R) : Option R := l_eqEntryS.l1 (K (.ext 0) (SK.enc l_eqEntryS.sh1e0 ((), ()))) (fun y0 => K .ret (SK.enc l_eqEntryS.sh1r ((y0, ()), ()))) n t.1.1 t.1.2.1 t.1.2.2.1
def l_eqEntryS.S1 : Sum := ⟨([], [0, 1, 5]), sumF l_eqEntryS.sh1 (l_eqEntryS.G1 fuel), l_eqEntryS.ko1⟩
theorem l_eqEntryS.ok1 (hE : EOk Tryz.prog (l_eqEntryS.E)) : SumOk Tryz.prog l_eqEntryS.E (cB (cR (cL (cR (cR (bodyOf Tryz.f48)))))) (l_eqEntryS.S1) := by
  have hh : HintOk Tryz.prog l_eqEntryS.E (cB (cB (cR (cL (cR (cR (bodyOf Tryz.f48))))))) (.a) := HintOk.n1 (Q := True) (by kernel_rfl) trivial
  have h := loopS (kin := ([], [0, 1, 5])) (kout := l_eqEntryS.ko1) (sh := l_eqEntryS.sh1) (F := l_eqEntryS.G1) (ops_ok (hE.gv _)) (by kernel_rfl) hh (fun _ _ _ => rfl) (fun n R t K => by kernel_rfl) fuel
  exact HintOk.n1 (c := (cB (cR (cL (cR (cR (bodyOf Tryz.f48))))))) (h := .s (l_eqEntryS.S1)) (P := Tryz.prog) (E := l_eqEntryS.E) (by kernel_rfl) h
theorem l_eqEntryS.hok (hE : EOk Tryz.prog (l_eqEntryS.E)) : HintOk Tryz.prog l_eqEntryS.E (bodyOf Tryz.f48) (.n (.a) (.n (.a) (.n (.n (.a) (.b (.s (l_eqEntryS.S1)))) (.a)))) := HintOk.n1 (Q := (True) ∧ ((True) ∧ (((True) ∧ (SumOk Tryz.prog l_eqEntryS.E (cB (cR (cL (cR (cR (bodyOf Tryz.f48)))))) (l_eqEntryS.S1))) ∧ (True)))) (by kernel_rfl) ⟨trivial, ⟨trivial, ⟨⟨trivial, (l_eqEntryS.ok1 hE)⟩, trivial⟩⟩⟩
theorem l_eqEntryS.hE : EOk Tryz.prog (l_eqEntryS.E) := EOk.of ttOk (⟨l_eqEntry.fok, trivial⟩)
theorem l_eqEntryS.fok : FOk Tryz.prog 48 l_eqEntryS.fi :=
  fokS (E := l_eqEntryS.E) (wy := ⟨[[none]], [[], []], []⟩) (h := (fun gs => .n (.a) (.n (.a) (.n (.n (.a) (.b (.s (l_eqEntryS.S1)))) (.a))))) (G := fun t g => l_eqEntryS.F (fun y0 => g y0) t.1 t.2.1) (by kernel_rfl) l_eqEntryS.hE Tryz.func48 (by kernel_rfl) rfl (Nat.le_refl _) (fun t => HintOk.n1 (by kernel_rfl) (l_eqEntryS.hok l_eqEntryS.hE)) (fun t g => l_eqEntryS_nat g t.1 t.2.1) (fun t => by kernel_rfl)
/-! loop.example_g00220_laws.eqState -/
def l_eqState.F {R : Type} (kk : Bool → Option R) (a_Term : Int) (a_Vote : Int) (a_Log : List (El kEntry)) (b_Term : Int) (b_Vote : Int) (b_Log : List (El kEntry)) : Option R :=
  cond (a_Term != b_Term) (kk false) (
    cond (a_Vote != b_Vote) (kk false) (
      (l_eqEntryS a_Log b_Log).bind fun r =>
      cond (!r) (kk false) (kk true)))
theorem l_eqState.F_nat {R S : Type} (g : R → Option S) (kk : Bool → Option R) (a_Term : Int) (a_Vote : Int) (a_Log : List (El kEntry)) (b_Term : Int) (b_Vote : Int) (b_Log : List (El kEntry)) : l_eqState.F (fun y0 => (kk y0).bind g) a_Term a_Vote a_Log b_Term b_Vote b_Log = (l_eqState.F kk a_Term a_Vote a_Log b_Term b_Vote b_Log).bind g := by
  simp only [l_eqState.F, grd_bind, cnd_bind, bnd_bind, non_bind]
def l_eqState (a_Term : Int) (a_Vote : Int) (a_Log : List (El kEntry)) (b_Term : Int) (b_Vote : Int) (b_Log : List (El kEntry)) : Option Bool := l_eqState.F (fun y0 => some y0) a_Term a_Vote a_Log b_Term b_Vote b_Log
theorem l_eqState_nat {S : Type} (g : Bool → Option S) (a_Term : Int) (a_Vote : Int) (a_Log : List (El kEntry)) (b_Term : Int) (b_Vote : Int) (b_Log : List (El kEntry)) : l_eqState.F (fun y0 => g y0) a_Term a_Vote a_Log b_Term b_Vote b_Log = (l_eqState a_Term a_Vote a_Log b_Term b_Vote b_Log).bind g := l_eqState.F_nat g (fun y0 => some y0) a_Term a_Vote a_Log b_Term b_Vote b_Log
def l_eqState.out : Bool → CRes := fun a => ⟨encL SV.enc [.one (.bool)] (a, ()), [encL SC.enc [] (), encL SC.enc [] ()]⟩
def l_eqState.ps : List PS := [.val [none, none, some (kEntry, false)], .val [none, none, some (kEntry, false)]]
def l_eqState.sA : List SA := [.v (.agg [.int .i64, .int .i64, .slv [] kEntry]), .v (.agg [.int .i64, .int .i64, .slv [] kEntry])]
def l_eqState.fi : FI := FIs l_eqState.sA (Bool) (fun t => l_eqState t.1.1 t.1.2.1 t.1.2.2.1 t.2.1.1 t.2.1.2.1 t.2.1.2.2.1) l_eqState.out l_eqState.ps
def l_eqState.E : Env := ⟨tt, lkF [(48, l_eqEntryS.fi)], 21, 0, [], []⟩
theorem l_eqState.hok (hE : EOk Tryz.prog (l_eqState.E)) : HintOk Tryz.prog l_eqState.E (bodyOf Tryz.f11) (.a) := HintOk.n1 (Q := True) (by kernel_rfl) trivial
theorem l_eqState.hE : EOk Tryz.prog (l_eqState.E) := EOk.of ttOk (⟨l_eqEntryS.fok, trivial⟩)
theorem l_eqState.fok : FOk Tryz.prog 11 l_eqState.fi :=
  fokS (E := l_eqState.E) (wy := ⟨[[none]], [[], []], []⟩) (h := (fun gs => .a)) (G := fun t g => l_eqState.F (fun y0 => g y0) t.1.1 t.1.2.1 t.1.2.2.1 t.2.1.1 t.2.1.2.1 t.2.1.2.2.1) (by kernel_rfl) l_eqState.hE Tryz.func11 (by kernel_rfl) rfl (Nat.le_refl _) (fun t => HintOk.n1 (by kernel_rfl) (l_eqState.hok l_eqState.hE)) (fun t g => l_eqState_nat g t.1.1 t.1.2.1 t.1.2.2.1 t.2.1.1 t.2.1.2.1 t.2.1.2.2.1) (fun t => by kernel_rfl)
/-! loop.example_g00220_laws.eqFile -/
def l_eqFile.F {R : Type} (kk : Bool → Option R) (a_Name : ByteArray) (a_Data : ByteArray) (a_Sure : Int) (b_Name : ByteArray) (b_Data : ByteArray) (b_Sure : Int) : Option R :=
  cond (!(sEq a_Name b_Name)) (kk false) (cond (!(sEq a_Data b_Data)) (kk false) (cond (a_Sure != b_Sure) (kk false) (kk true)))
theorem l_eqFile.F_nat {R S : Type} (g : R → Option S) (kk : Bool → Option R) (a_Name : ByteArray) (a_Data : ByteArray) (a_Sure : Int) (b_Name : ByteArray) (b_Data : ByteArray) (b_Sure : Int) : l_eqFile.F (fun y0 => (kk y0).bind g) a_Name a_Data a_Sure b_Name b_Data b_Sure = (l_eqFile.F kk a_Name a_Data a_Sure b_Name b_Data b_Sure).bind g := by
  simp only [l_eqFile.F, grd_bind, cnd_bind, bnd_bind, non_bind]
def l_eqFile (a_Name : ByteArray) (a_Data : ByteArray) (a_Sure : Int) (b_Name : ByteArray) (b_Data : ByteArray) (b_Sure : Int) : Option Bool := l_eqFile.F (fun y0 => some y0) a_Name a_Data a_Sure b_Name b_Data b_Sure
theorem l_eqFile_nat {S : Type} (g : Bool → Option S) (a_Name : ByteArray) (a_Data : ByteArray) (a_Sure : Int) (b_Name : ByteArray) (b_Data : ByteArray) (b_Sure : Int) : l_eqFile.F (fun y0 => g y0) a_Name a_Data a_Sure b_Name b_Data b_Sure = (l_eqFile a_Name a_Data a_Sure b_Name b_Data b_Sure).bind g := l_eqFile.F_nat g (fun y0 => some y0) a_Name a_Data a_Sure b_Name b_Data b_Sure
def l_eqFile.out : Bool → CRes := fun a => ⟨encL SV.enc [.one (.bool)] (a, ()), [encL SC.enc [] (), encL SC.enc [] ()]⟩
def l_eqFile.ps : List PS := [.val [none, none, none], .val [none, none, none]]
def l_eqFile.sA : List SA := [.v (.agg [.str, .str, .int .i64]), .v (.agg [.str, .str, .int .i64])]
def l_eqFile.fi : FI := FIs l_eqFile.sA (Bool) (fun t => l_eqFile t.1.1 t.1.2.1 t.1.2.2.1 t.2.1.1 t.2.1.2.1 t.2.1.2.2.1) l_eqFile.out l_eqFile.ps
def l_eqFile.E : Env := ⟨tt, lkF [], 20, 0, [], []⟩
theorem l_eqFile.hok (hE : EOk Tryz.prog (l_eqFile.E)) : HintOk Tryz.prog l_eqFile.E (bodyOf Tryz.f97) (.a) := HintOk.n1 (Q := True) (by kernel_rfl) trivial
theorem l_eqFile.hE : EOk Tryz.prog (l_eqFile.E) := EOk.of ttOk (trivial)
theorem l_eqFile.fok : FOk Tryz.prog 97 l_eqFile.fi :=
  fokS (E := l_eqFile.E) (wy := ⟨[[none]], [[], []], []⟩) (h := (fun gs => .a)) (G := fun t g => l_eqFile.F (fun y0 => g y0) t.1.1 t.1.2.1 t.1.2.2.1 t.2.1.1 t.2.1.2.1 t.2.1.2.2.1) (by kernel_rfl) l_eqFile.hE Tryz.func97 (by kernel_rfl) rfl (Nat.le_refl _) (fun t => HintOk.n1 (by kernel_rfl) (l_eqFile.hok l_eqFile.hE)) (fun t g => l_eqFile_nat g t.1.1 t.1.2.1 t.1.2.2.1 t.2.1.1 t.2.1.2.1 t.2.1.2.2.1) (fun t => by kernel_rfl)
/-! loop.example_g00220_laws.eqFileS -/
def l_eqFileS.l1 {R : Type} (kke0 : Option R) (kkr : Bool → Option R) : Nat → List (El kFile) → List (El kFile) → Int → Option R
  | 0, _, _, _ => none
  | n + 1, a, b, i =>
    cond (decide (i < (List.length a : Int))) (
      grd (gIx i (List.length a)) <|
      grd (gIx i (List.length b)) <|
      (l_eqFile ((rdE kFile a (Int.toNat i)).1) ((rdE kFile a (Int.toNat i)).2.1) ((rdE kFile a (Int.toNat i)).2.2) ((rdE kFile b (Int.toNat i)).1) ((rdE kFile b (Int.toNat i)).2.1) ((rdE kFile b (Int.toNat i)).2.2)).bind fun r =>
      cond (!r) (kkr false) (l_eqFileS.l1 kke0 kkr n a b (IntKind.wrap .i64 (i + (1 : Int))))) (kke0)
theorem l_eqFileS.l1_nat {R S : Type} (g : R → Option S) (kke0 : Option R) (kkr : Bool → Option R) : ∀ (n : Nat) (a : List (El kFile)) (b : List (El kFile)) (i : Int), l_eqFileS.l1 (kke0.bind g) (fun y0 => (kkr y0).bind g) n a b i = (l_eqFileS.l1 kke0 kkr n a b i).bind g := by
  intro n
  induction n with
  | zero => intros; rfl
  | succ n ih => intros; simp only [l_eqFileS.l1, grd_bind, cnd_bind, bnd_bind, non_bind, ih]
def l_eqFileS.F {R : Type} (kk : Bool → Option R) (a : List (El kFile)) (b : List (El kFile)) : Option R :=
  cond ((List.length a : Int) != (List.length b : Int)) (kk false) (l_eqFileS.l1 (kk true) (fun b1 => kk b1) fuel a b (0 : Int))
theorem l_eqFileS.F_nat {R S : Type} (g : R → Option S) (kk : Bool → Option R) (a : List (El kFile)) (b : List (El kFile)) : l_eqFileS.F (fun y0 => (kk y0).bind g) a b = (l_eqFileS.F kk a b).bind g := by
  simp only [l_eqFileS.F, grd_bind, cnd_bind, bnd_bind, non_bind, ← l_eqFileS.l1_nat]
def l_eqFileS (a : List (El kFile)) (b : List (El kFile)) : Option Bool := l_eqFileS.F (fun y0 => some y0) a b
theorem l_eqFileS_nat {S : Type} (g : Bool → Option S) (a : List (El kFile)) (b : List (El kFile)) : l_eqFileS.F (fun y0 => g y0) a b = (l_eqFileS a b).bind g := l_eqFileS.F_nat g (fun y0 => some y0) a b
def l_eqFileS.out : Bool → CRes := fun a => ⟨encL SV.enc [.one (.bool)] (a, ()), [encL SC.enc [] (), encL SC.enc [] ()]⟩
def l_eqFileS.ps : List PS := [.val [some (kFile, false)], .val [some (kFile, false)]]
def l_eqFileS.sA : List SA := [.v (.one (.slv [] kFile)), .v (.one (.slv [] kFile))]
def l_eqFileS.fi : FI := FIs l_eqFileS.sA (Bool) (fun t => l_eqFileS t.1 t.2.1) l_eqFileS.out l_eqFileS.ps
def l_eqFileS.E : Env := ⟨tt, lkF [(97, l_eqFile.fi)], 27, 0, [], []⟩
def l_eqFileS.sh1 : SK := ⟨[.v (.one (.slv [1] kFile)), .v (.one (.slv [2] kFile)), .v (.one (.int .i64))], []⟩
def l_eqFileS.sh1e0 : SK := ⟨[], []⟩
def l_eqFileS.sh1r : SK := ⟨[.v (.one (.bool))], []⟩
def l_eqFileS.ko1 : Ex → List CastAt × List Nat
  | .nrm => ([], [])
  | .ret => ([], [4])
  | .ext i => cond (Nat.beq i 0) ([], []) ([], [])
def l_eqFileS.G1 (n : Nat) (R : Type) (t : l_eqFileS.sh1.T) (K : Ex → Kp → Option R) : Option R := l_eqFileS.l1 (K (.ext 0) (SK.enc l_eqFileS.sh1e0 ((), ()))) (fun y0 => K .ret (SK.enc l_eqFileS.sh1r ((y0, ()), ()))) n t.1.1 t.1.2.1 t.1.2.2.1
def l_eqFileS.S1 : Sum := ⟨([], [0, 1, 5]), sumF l_eqFileS.sh1 (l_eqFileS.G1 fuel), l_eqFileS.ko1⟩
theorem l_eqFileS.ok1 (hE : EOk Tryz.prog (l_eqFileS.E)) : SumOk Tryz.prog l_eqFileS.E (cB (cR (cL (cR (cR (bodyOf Tryz.f49)))))) (l_eqFileS.S1) := by
  have hh : HintOk Tryz.prog l_eqFileS.E (cB (cB (cR (cL (cR (cR (bodyOf Tryz.f49))))))) (.a) := HintOk.n1 (Q := True) (by kernel_rfl) trivial
  have h := loopS (kin := ([], [0, 1, 5])) (kout := l_eqFileS.ko1) (sh := l_eqFileS.sh1) (F := l_eqFileS.G1) (ops_ok (hE.gv _)) (by kernel_rfl) hh (fun _ _ _ => rfl) (fun n R t K => by kernel_rfl) fuel
  exact HintOk.n1 (c := (cB (cR (cL (cR (cR (bodyOf Tryz.f49))))))) (h := .s (l_eqFileS.S1)) (P := Tryz.prog) (E := l_eqFileS.E) (by kernel_rfl) h
theorem l_eqFileS.hok (hE : EOk Tryz.prog (l_eqFileS.E)) : HintOk Tryz.prog l_eqFileS.E (bodyOf Tryz.f49) (.n (.a) (.n (.a) (.n (.n (.a) (.b (.s (l_eqFileS.S1)))) (.a)))) := HintOk.n1 (Q := (True) ∧ ((True) ∧ (((True) ∧ (SumOk Tryz.prog l_eqFileS.E (cB (cR (cL (cR (cR (bodyOf Tryz.f49)))))) (l_eqFileS.S1))) ∧ (True)))) (by kernel_rfl) ⟨trivial, ⟨trivial, ⟨⟨trivial, (l_eqFileS.ok1 hE)⟩, trivial⟩⟩⟩
theorem l_eqFileS.hE : EOk Tryz.prog (l_eqFileS.E) := EOk.of ttOk (⟨l_eqFile.fok, trivial⟩)
theorem l_eqFileS.fok : FOk Tryz.prog 49 l_eqFileS.fi :=
  fokS (E := l_eqFileS.E) (wy := ⟨[[none]], [[], []], []⟩) (h := (fun gs => .n (.a) (.n (.a) (.n (.n (.a) (.b (.s (l_eqFileS.S1)))) (.a))))) (G := fun t g => l_eqFileS.F (fun y0 => g y0) t.1 t.2.1) (by kernel_rfl) l_eqFileS.hE Tryz.func49 (by kernel_rfl) rfl (Nat.le_refl _) (fun t => HintOk.n1 (by kernel_rfl) (l_eqFileS.hok l_eqFileS.hE)) (fun t g => l_eqFileS_nat g t.1 t.2.1) (fun t => by kernel_rfl)
/-! loop.example_g00220_laws.eqDisk -/
def l_eqDisk.F {R : Type} (kk : Bool → Option R) (a_Room : Int) (a_Files : List (El kFile)) (b_Room : Int) (b_Files : List (El kFile)) : Option R :=
  cond (a_Room != b_Room) (kk false) (
    (l_eqFileS a_Files b_Files).bind fun r =>
    cond (!r) (kk false) (kk true))
theorem l_eqDisk.F_nat {R S : Type} (g : R → Option S) (kk : Bool → Option R) (a_Room : Int) (a_Files : List (El kFile)) (b_Room : Int) (b_Files : List (El kFile)) : l_eqDisk.F (fun y0 => (kk y0).bind g) a_Room a_Files b_Room b_Files = (l_eqDisk.F kk a_Room a_Files b_Room b_Files).bind g := by
  simp only [l_eqDisk.F, grd_bind, cnd_bind, bnd_bind, non_bind]
def l_eqDisk (a_Room : Int) (a_Files : List (El kFile)) (b_Room : Int) (b_Files : List (El kFile)) : Option Bool := l_eqDisk.F (fun y0 => some y0) a_Room a_Files b_Room b_Files
theorem l_eqDisk_nat {S : Type} (g : Bool → Option S) (a_Room : Int) (a_Files : List (El kFile)) (b_Room : Int) (b_Files : List (El kFile)) : l_eqDisk.F (fun y0 => g y0) a_Room a_Files b_Room b_Files = (l_eqDisk a_Room a_Files b_Room b_Files).bind g := l_eqDisk.F_nat g (fun y0 => some y0) a_Room a_Files b_Room b_Files
def l_eqDisk.out : Bool → CRes := fun a => ⟨encL SV.enc [.one (.bool)] (a, ()), [encL SC.enc [] (), encL SC.enc [] ()]⟩
def l_eqDisk.ps : List PS := [.val [none, some (kFile, false)], .val [none, some (kFile, false)]]
def l_eqDisk.sA : List SA := [.v (.agg [.int .i64, .slv [] kFile]), .v (.agg [.int .i64, .slv [] kFile])]
def l_eqDisk.fi : FI := FIs l_eqDisk.sA (Bool) (fun t => l_eqDisk t.1.1 t.1.2.1 t.2.1.1 t.2.1.2.1) l_eqDisk.out l_eqDisk.ps
def l_eqDisk.E : Env := ⟨tt, lkF [(49, l_eqFileS.fi)], 16, 0, [], []⟩
theorem l_eqDisk.hok (hE : EOk Tryz.prog (l_eqDisk.E)) : HintOk Tryz.prog l_eqDisk.E (bodyOf Tryz.f12) (.a) := HintOk.n1 (Q := True) (by kernel_rfl) trivial
theorem l_eqDisk.hE : EOk Tryz.prog (l_eqDisk.E) := EOk.of ttOk (⟨l_eqFileS.fok, trivial⟩)
theorem l_eqDisk.fok : FOk Tryz.prog 12 l_eqDisk.fi :=
  fokS (E := l_eqDisk.E) (wy := ⟨[[none]], [[], []], []⟩) (h := (fun gs => .a)) (G := fun t g => l_eqDisk.F (fun y0 => g y0) t.1.1 t.1.2.1 t.2.1.1 t.2.1.2.1) (by kernel_rfl) l_eqDisk.hE Tryz.func12 (by kernel_rfl) rfl (Nat.le_refl _) (fun t => HintOk.n1 (by kernel_rfl) (l_eqDisk.hok l_eqDisk.hE)) (fun t g => l_eqDisk_nat g t.1.1 t.1.2.1 t.2.1.1 t.2.1.2.1) (fun t => by kernel_rfl)
/-! loop.example_g00220_laws.markText -/
def l_markText.l1 {R : Type} (kke0 : ByteArray → Option R) : Nat → Int → ByteArray → Option R
  | 0, _, _ => none
  | n + 1, k_, out =>
    cond (decide (k_ > (0 : Int))) (
      grd (gNz (10 : Int)) <|
      grd (gCat (strL [IntKind.wrap .u8 (IntKind.wrap .i64 ((48 : Int) + (Int.tmod k_ (10 : Int))))]) out) <|
      grd (gNz (10 : Int)) <|
      l_markText.l1 kke0 n (IntKind.wrap .i64 (Int.tdiv k_ (10 : Int))) ((strL [IntKind.wrap .u8 (IntKind.wrap .i64 ((48 : Int) + (Int.tmod k_ (10 : Int))))]) ++ out)) (kke0 out)
theorem l_markText.l1_nat {R S : Type} (g : R → Option S) (kke0 : ByteArray → Option R) : ∀ (n : Nat) (k_ : Int) (out : ByteArray), l_markText.l1 (fun y0 => (kke0 y0).bind g) n k_ out = (l_markText.l1 kke0 n k_ out).bind g := by
  intro n
  induction n with
  | zero => intros; rfl
  | succ n ih => intros; simp only [l_markText.l1, grd_bind, cnd_bind, bnd_bind, non_bind, ih]
def l_markText.F {R : Type} (kk : ByteArray → Option R) (k_ : Int) : Option R :=
  cond (decide (k_ ≤ (0 : Int))) (kk (⟨#[109, 48]⟩ : ByteArray)) (
    l_markText.l1 (fun out =>
      grd (gCat (⟨#[109]⟩ : ByteArray) out) <|
      kk ((⟨#[109]⟩ : ByteArray) ++ out)) fuel k_ ByteArray.empty)
theorem l_markText.F_nat {R S : Type} (g : R → Option S) (kk : ByteArray → Option R) (k_ : Int) : l_markText.F (fun y0 => (kk y0).bind g) k_ = (l_markText.F kk k_).bind g := by
  simp only [l_markText.F, grd_bind, cnd_bind, bnd_bind, non_bind, ← l_markText.l1_nat]
def l_markText (k_ : Int) : Option ByteArray := l_markText.F (fun y0 => some y0) k_
theorem l_markText_nat {S : Type} (g : ByteArray → Option S) (k_ : Int) : l_markText.F (fun y0 => g y0) k_ = (l_markText k_).bind g := l_markText.F_nat g (fun y0 => some y0) k_
def l_markText.out : ByteArray → CRes := fun a => ⟨encL SV.enc [.one (.str)] (a, ()), [encL SC.enc [] ()]⟩
def l_markText.ps : List PS := [.val [none]]
def l_markText.sA : List SA := [.v (.one (.int .i64))]
def l_markText.fi : FI := FIs l_markText.sA (ByteArray) (fun t => l_markText t.1) l_markText.out l_markText.ps
def l_markText.E : Env := ⟨tt, lkF [], 20, 0, [], []⟩
def l_markText.sh1 : SK := ⟨[.v (.one (.int .i64)), .v (.one (.str))], []⟩
def l_markText.sh1e0 : SK := ⟨[.v (.one (.str))], []⟩
def l_markText.ko1 : Ex → List CastAt × List Nat
  | .nrm => ([], [])
  | .ret => ([], [])
  | .ext i => cond (Nat.beq i 0) ([], [3]) ([], [])
def l_markText.G1 (n : Nat) (R : Type) (t : l_markText.sh1.T) (K : Ex → Kp → Option R) : Option R := l_markText.l1 (fun y0 => K (.ext 0) (SK.enc l_markText.sh1e0 ((y0, ()), ()))) n t.1.1 t.1.2.1
def l_markText.S1 : Sum := ⟨([], [0, 3]), sumF l_markText.sh1 (l_markText.G1 fuel), l_markText.ko1⟩
theorem l_markText.ok1 (hE : EOk Tryz.prog (l_markText.E)) : SumOk Tryz.prog l_markText.E (cB (cL (cR (cR (cR (bodyOf Tryz.f98)))))) (l_markText.S1) := by
  have hh : HintOk Tryz.prog l_markText.E (cB (cB (cL (cR (cR (cR (bodyOf Tryz.f98))))))) (.a) := HintOk.n1 (Q := True) (by kernel_rfl) trivial
  have h := loopS (kin := ([], [0, 3])) (kout := l_markText.ko1) (sh := l_markText.sh1) (F := l_markText.G1) (ops_ok (hE.gv _)) (by kernel_rfl) hh (fun _ _ _ => rfl) (fun n R t K => by kernel_rfl) fuel
  exact HintOk.n1 (c := (cB (cL (cR (cR (cR (bodyOf Tryz.f98))))))) (h := .s (l_markText.S1)) (P := Tryz.prog) (E := l_markText.E) (by kernel_rfl) h
theorem l_markText.hok (hE : EOk Tryz.prog (l_markText.E)) : HintOk Tryz.prog l_markText.E (bodyOf Tryz.f98) (.n (.a) (.n (.a) (.n (.a) (.n (.b (.s (l_markText.S1))) (.a))))) := HintOk.n1 (Q := (True) ∧ ((True) ∧ ((True) ∧ ((SumOk Tryz.prog l_markText.E (cB (cL (cR (cR (cR (bodyOf Tryz.f98)))))) (l_markText.S1)) ∧ (True))))) (by kernel_rfl) ⟨trivial, ⟨trivial, ⟨trivial, ⟨(l_markText.ok1 hE), trivial⟩⟩⟩⟩
theorem l_markText.hE : EOk Tryz.prog (l_markText.E) := EOk.of ttOk (trivial)
theorem l_markText.fok : FOk Tryz.prog 98 l_markText.fi :=
  fokS (E := l_markText.E) (wy := ⟨[[none]], [[]], []⟩) (h := (fun gs => .n (.a) (.n (.a) (.n (.a) (.n (.b (.s (l_markText.S1))) (.a)))))) (G := fun t g => l_markText.F (fun y0 => g y0) t.1) (by kernel_rfl) l_markText.hE Tryz.func98 (by kernel_rfl) rfl (Nat.le_refl _) (fun t => HintOk.n1 (by kernel_rfl) (l_markText.hok l_markText.hE)) (fun t g => l_markText_nat g t.1) (fun t => by kernel_rfl)
/-! loop.example_g00220_laws.markFileS -/
def l_markFileS.l1 {R : Type} (kke0 : Int → List (El kFile) → Option R) : Nat → Int → Int → List (El kFile) → Option R
  | 0, _, _, _ => none
  | n + 1, k_, i, a =>
    cond (decide (i < (List.length a : Int))) (
      (l_markText k_).bind fun r =>
      grd (gIx i (List.length a)) <|
      (l_markText (IntKind.wrap .i64 (k_ + (1 : Int)))).bind fun r1 =>
      grd (gIx i (List.length (setE kFile a (Int.toNat i) (r, (rdE kFile a (Int.toNat i)).2)))) <|
      grd (gIx i (List.length (setE kFile (setE kFile a (Int.toNat i) (r, (rdE kFile a (Int.toNat i)).2)) (Int.toNat i) ((rdE kFile (setE kFile a (Int.toNat i) (r, (rdE kFile a (Int.toNat i)).2)) (Int.toNat i)).1, (r1, (rdE kFile (setE kFile a (Int.toNat i) (r, (rdE kFile a (Int.toNat i)).2)) (Int.toNat i)).2.2))))) <|
      l_markFileS.l1 kke0 n (IntKind.wrap .i64 ((IntKind.wrap .i64 ((IntKind.wrap .i64 (k_ + (1 : Int))) + (1 : Int))) + (1 : Int))) (IntKind.wrap .i64 (i + (1 : Int))) (setE kFile (setE kFile (setE kFile a (Int.toNat i) (r, (rdE kFile a (Int.toNat i)).2)) (Int.toNat i) ((rdE kFile (setE kFile a (Int.toNat i) (r, (rdE kFile a (Int.toNat i)).2)) (Int.toNat i)).1, (r1, (rdE kFile (setE kFile a (Int.toNat i) (r, (rdE kFile a (Int.toNat i)).2)) (Int.toNat i)).2.2))) (Int.toNat i) ((rdE kFile (setE kFile (setE kFile a (Int.toNat i) (r, (rdE kFile a (Int.toNat i)).2)) (Int.toNat i) ((rdE kFile (setE kFile a (Int.toNat i) (r, (rdE kFile a (Int.toNat i)).2)) (Int.toNat i)).1, (r1, (rdE kFile (setE kFile a (Int.toNat i) (r, (rdE kFile a (Int.toNat i)).2)) (Int.toNat i)).2.2))) (Int.toNat i)).1, ((rdE kFile (setE kFile (setE kFile a (Int.toNat i) (r, (rdE kFile a (Int.toNat i)).2)) (Int.toNat i) ((rdE kFile (setE kFile a (Int.toNat i) (r, (rdE kFile a (Int.toNat i)).2)) (Int.toNat i)).1, (r1, (rdE kFile (setE kFile a (Int.toNat i) (r, (rdE kFile a (Int.toNat i)).2)) (Int.toNat i)).2.2))) (Int.toNat i)).2.1, IntKind.wrap .i64 ((IntKind.wrap .i64 (k_ + (1 : Int))) + (1 : Int)))))) (kke0 k_ a)
theorem l_markFileS.l1_nat {R S : Type} (g : R → Option S) (kke0 : Int → List (El kFile) → Option R) : ∀ (n : Nat) (k_ : Int) (i : Int) (a : List (El kFile)), l_markFileS.l1 (fun y0 y1 => (kke0 y0 y1).bind g) n k_ i a = (l_markFileS.l1 kke0 n k_ i a).bind g := by
  intro n
  induction n with
  | zero => intros; rfl
  | succ n ih => intros; simp only [l_markFileS.l1, grd_bind, cnd_bind, bnd_bind, non_bind, ih]
def l_markFileS.F {R : Type} (kk : Int → List (El kFile) → Option R) (a : List (El kFile)) (k_ : Int) : Option R :=
  l_markFileS.l1 (fun k_1 a1 => kk k_1 a1) fuel k_ (0 : Int) a
theorem l_markFileS.F_nat {R S : Type} (g : R → Option S) (kk : Int → List (El kFile) → Option R) (a : List (El kFile)) (k_ : Int) : l_markFileS.F (fun y0 y1 => (kk y0 y1).bind g) a k_ = (l_markFileS.F kk a k_).bind g := by
  simp only [l_markFileS.F, grd_bind, cnd_bind, bnd_bind, non_bind, ← l_markFileS.l1_nat]
def l_markFileS (a : List (El kFile)) (k_ : Int) : Option (Int × List (El kFile)) := l_markFileS.F (fun y0 y1 => some (y0, y1)) a k_
theorem l_markFileS_nat {S : Type} (g : (Int × List (El kFile)) → Option S) (a : List (El kFile)) (k_ : Int) : l_markFileS.F (fun y0 y1 => g (y0, y1)) a k_ = (l_markFileS a k_).bind g := l_markFileS.F_nat g (fun y0 y1 => some (y0, y1)) a k_
def l_markFileS.out : (Int × List (El kFile)) → CRes := fun a => ⟨encL SV.enc [.one (.int .i64)] (a.1, ()), [encL SC.enc [.own [] kFile true] (a.2, ()), encL SC.enc [] ()]⟩
def l_markFileS.ps : List PS := [.val [some (kFile, true)], .val [none]]
def l_markFileS.sA : List SA := [.v (.one (.own [] kFile true)), .v (.one (.int .i64))]
def l_markFileS.fi : FI := FIs l_markFileS.sA (Int × List (El kFile)) (fun t => l_markFileS t.1 t.2.1) l_markFileS.out l_markFileS.ps
def l_markFileS.E : Env := ⟨tt, lkF [(98, l_markText.fi)], 36, 1, [], []⟩
def l_markFileS.sh1 : SK := ⟨[.v (.one (.slo 0)), .v (.one (.int .i64)), .v (.one (.int .i64))], [.arr kFile [] true]⟩
def l_markFileS.sh1e0 : SK := ⟨[.v (.one (.int .i64))], [.arr kFile [] true]⟩
def l_markFileS.ko1 : Ex → List CastAt × List Nat
  | .nrm => ([], [])
  | .ret => ([], [])
  | .ext i => cond (Nat.beq i 0) ([], [1]) ([], [])
def l_markFileS.G1 (n : Nat) (R : Type) (t : l_markFileS.sh1.T) (K : Ex → Kp → Option R) : Option R := l_markFileS.l1 (fun y0 y1 => K (.ext 0) (SK.enc l_markFileS.sh1e0 ((y0, ()), (y1, ())))) n t.1.2.1 t.1.2.2.1 t.2.1
def l_markFileS.S1 : Sum := ⟨([], [0, 1, 5]), sumF l_markFileS.sh1 (l_markFileS.G1 fuel), l_markFileS.ko1⟩
theorem l_markFileS.ok1 (hE : EOk Tryz.prog (l_markFileS.E)) : SumOk Tryz.prog l_markFileS.E (cB (cR (cL (cR (bodyOf Tryz.f50))))) (l_markFileS.S1) := by
  have hh : HintOk Tryz.prog l_markFileS.E (cB (cB (cR (cL (cR (bodyOf Tryz.f50)))))) (.a) := HintOk.n1 (Q := True) (by kernel_rfl) trivial
  have h := loopS (kin := ([], [0, 1, 5])) (kout := l_markFileS.ko1) (sh := l_markFileS.sh1) (F := l_markFileS.G1) (ops_ok (hE.gv _)) (by kernel_rfl) hh (fun _ _ _ => rfl) (fun n R t K => by kernel_rfl) fuel
  exact HintOk.n1 (c := (cB (cR (cL (cR (bodyOf Tryz.f50)))))) (h := .s (l_markFileS.S1)) (P := Tryz.prog) (E := l_markFileS.E) (by kernel_rfl) h
theorem l_markFileS.hok (hE : EOk Tryz.prog (l_markFileS.E)) : HintOk Tryz.prog l_markFileS.E (bodyOf Tryz.f50) (.n (.a) (.n (.n (.a) (.b (.s (l_markFileS.S1)))) (.a))) := HintOk.n1 (Q := (True) ∧ (((True) ∧ (SumOk Tryz.prog l_markFileS.E (cB (cR (cL (cR (bodyOf Tryz.f50))))) (l_markFileS.S1))) ∧ (True))) (by kernel_rfl) ⟨trivial, ⟨⟨trivial, (l_markFileS.ok1 hE)⟩, trivial⟩⟩
theorem l_markFileS.hE : EOk Tryz.prog (l_markFileS.E) := EOk.of ttOk (⟨l_markText.fok, trivial⟩)
theorem l_markFileS.fok : FOk Tryz.prog 50 l_markFileS.fi :=
  fokS (E := l_markFileS.E) (wy := ⟨[[none]], [[], []], []⟩) (h := (fun gs => .n (.a) (.n (.n (.a) (.b (.s (l_markFileS.S1)))) (.a)))) (G := fun t g => l_markFileS.F (fun y0 y1 => g (y0, y1)) t.1 t.2.1) (by kernel_rfl) l_markFileS.hE Tryz.func50 (by kernel_rfl) rfl (Nat.le_refl _) (fun t => HintOk.n1 (by kernel_rfl) (l_markFileS.hok l_markFileS.hE)) (fun t g => l_markFileS_nat g t.1 t.2.1) (fun t => by kernel_rfl)
/-! loop.example_g00220_laws.markDisk -/
def l_markDisk.F {R : Type} (kk : Int → List (El kFile) → Option R) (a_Room : Int) (a_Files : List (El kFile)) (k_ : Int) : Option R :=
  (l_markFileS a_Files k_).bind fun r =>
  kk r.1 r.2
theorem l_markDisk.F_nat {R S : Type} (g : R → Option S) (kk : Int → List (El kFile) → Option R) (a_Room : Int) (a_Files : List (El kFile)) (k_ : Int) : l_markDisk.F (fun y0 y1 => (kk y0 y1).bind g) a_Room a_Files k_ = (l_markDisk.F kk a_Room a_Files k_).bind g := by
  simp only [l_markDisk.F, grd_bind, cnd_bind, bnd_bind, non_bind]
def l_markDisk (a_Room : Int) (a_Files : List (El kFile)) (k_ : Int) : Option (Int × List (El kFile)) := l_markDisk.F (fun y0 y1 => some (y0, y1)) a_Room a_Files k_
theorem l_markDisk_nat {S : Type} (g : (Int × List (El kFile)) → Option S) (a_Room : Int) (a_Files : List (El kFile)) (k_ : Int) : l_markDisk.F (fun y0 y1 => g (y0, y1)) a_Room a_Files k_ = (l_markDisk a_Room a_Files k_).bind g := l_markDisk.F_nat g (fun y0 y1 => some (y0, y1)) a_Room a_Files k_
def l_markDisk.out : (Int × List (El kFile)) → CRes := fun a => ⟨encL SV.enc [.one (.int .i64)] (a.1, ()), [encL SC.enc [.own [] kFile true] (a.2, ()), encL SC.enc [] ()]⟩
def l_markDisk.ps : List PS := [.val [none, some (kFile, true)], .val [none]]
def l_markDisk.sA : List SA := [.v (.agg [.int .i64, .own [] kFile true]), .v (.one (.int .i64))]
def l_markDisk.fi : FI := FIs l_markDisk.sA (Int × List (El kFile)) (fun t => l_markDisk t.1.1 t.1.2.1 t.2.1) l_markDisk.out l_markDisk.ps
def l_markDisk.E : Env := ⟨tt, lkF [(50, l_markFileS.fi)], 10, 1, [], []⟩
theorem l_markDisk.hok (hE : EOk Tryz.prog (l_markDisk.E)) : HintOk Tryz.prog l_markDisk.E (bodyOf Tryz.f13) (.a) := HintOk.n1 (Q := True) (by kernel_rfl) trivial
theorem l_markDisk.hE : EOk Tryz.prog (l_markDisk.E) := EOk.of ttOk (⟨l_markFileS.fok, trivial⟩)
theorem l_markDisk.fok : FOk Tryz.prog 13 l_markDisk.fi :=
  fokS (E := l_markDisk.E) (wy := ⟨[[none]], [[], []], []⟩) (h := (fun gs => .a)) (G := fun t g => l_markDisk.F (fun y0 y1 => g (y0, y1)) t.1.1 t.1.2.1 t.2.1) (by kernel_rfl) l_markDisk.hE Tryz.func13 (by kernel_rfl) rfl (Nat.le_refl _) (fun t => HintOk.n1 (by kernel_rfl) (l_markDisk.hok l_markDisk.hE)) (fun t g => l_markDisk_nat g t.1.1 t.1.2.1 t.2.1) (fun t => by kernel_rfl)
/-! loop.example_g00220_laws.markEntryS -/
def l_markEntryS.l1 {R : Type} (kke0 : Int → List (El kEntry) → Option R) : Nat → Int → Int → List (El kEntry) → Option R
  | 0, _, _, _ => none
  | n + 1, k_, i, a =>
    cond (decide (i < (List.length a : Int))) (
      grd (gIx i (List.length a)) <|
      grd (gIx i (List.length (setE kEntry a (Int.toNat i) (k_, (rdE kEntry a (Int.toNat i)).2)))) <|
      (l_markText (IntKind.wrap .i64 ((IntKind.wrap .i64 (k_ + (1 : Int))) + (1 : Int)))).bind fun r =>
      grd (gIx i (List.length (setE kEntry (setE kEntry a (Int.toNat i) (k_, (rdE kEntry a (Int.toNat i)).2)) (Int.toNat i) ((rdE kEntry (setE kEntry a (Int.toNat i) (k_, (rdE kEntry a (Int.toNat i)).2)) (Int.toNat i)).1, (IntKind.wrap .i64 (k_ + (1 : Int)), (rdE kEntry (setE kEntry a (Int.toNat i) (k_, (rdE kEntry a (Int.toNat i)).2)) (Int.toNat i)).2.2))))) <|
      l_markEntryS.l1 kke0 n (IntKind.wrap .i64 ((IntKind.wrap .i64 ((IntKind.wrap .i64 (k_ + (1 : Int))) + (1 : Int))) + (1 : Int))) (IntKind.wrap .i64 (i + (1 : Int))) (setE kEntry (setE kEntry (setE kEntry a (Int.toNat i) (k_, (rdE kEntry a (Int.toNat i)).2)) (Int.toNat i) ((rdE kEntry (setE kEntry a (Int.toNat i) (k_, (rdE kEntry a (Int.toNat i)).2)) (Int.toNat i)).1, (IntKind.wrap .i64 (k_ + (1 : Int)), (rdE kEntry (setE kEntry a (Int.toNat i) (k_, (rdE kEntry a (Int.toNat i)).2)) (Int.toNat i)).2.2))) (Int.toNat i) ((rdE kEntry (setE kEntry (setE kEntry a (Int.toNat i) (k_, (rdE kEntry a (Int.toNat i)).2)) (Int.toNat i) ((rdE kEntry (setE kEntry a (Int.toNat i) (k_, (rdE kEntry a (Int.toNat i)).2)) (Int.toNat i)).1, (IntKind.wrap .i64 (k_ + (1 : Int)), (rdE kEntry (setE kEntry a (Int.toNat i) (k_, (rdE kEntry a (Int.toNat i)).2)) (Int.toNat i)).2.2))) (Int.toNat i)).1, ((rdE kEntry (setE kEntry (setE kEntry a (Int.toNat i) (k_, (rdE kEntry a (Int.toNat i)).2)) (Int.toNat i) ((rdE kEntry (setE kEntry a (Int.toNat i) (k_, (rdE kEntry a (Int.toNat i)).2)) (Int.toNat i)).1, (IntKind.wrap .i64 (k_ + (1 : Int)), (rdE kEntry (setE kEntry a (Int.toNat i) (k_, (rdE kEntry a (Int.toNat i)).2)) (Int.toNat i)).2.2))) (Int.toNat i)).2.1, r)))) (kke0 k_ a)
theorem l_markEntryS.l1_nat {R S : Type} (g : R → Option S) (kke0 : Int → List (El kEntry) → Option R) : ∀ (n : Nat) (k_ : Int) (i : Int) (a : List (El kEntry)), l_markEntryS.l1 (fun y0 y1 => (kke0 y0 y1).bind g) n k_ i a = (l_markEntryS.l1 kke0 n k_ i a).bind g := by
  intro n
  induction n with
  | zero => intros; rfl
  | succ n ih => intros; simp only [l_markEntryS.l1, grd_bind, cnd_bind, bnd_bind, non_bind, ih]
def l_markEntryS.F {R : Type} (kk : Int → List (El kEntry) → Option R) (a : List (El kEntry)) (k_ : Int) : Option R :=
  l_markEntryS.l1 (fun k_1 a1 => kk k_1 a1) fuel k_ (0 : Int) a
theorem l_markEntryS.F_nat {R S : Type} (g : R → Option S) (kk : Int → List (El kEntry) → Option R) (a : List (El kEntry)) (k_ : Int) : l_markEntryS.F (fun y0 y1 => (kk y0 y1).bind g) a k_ = (l_markEntryS.F kk a k_).bind g := by
  simp only [l_markEntryS.F, grd_bind, cnd_bind, bnd_bind, non_bind, ← l_markEntryS.l1_nat]
def l_markEntryS (a : List (El kEntry)) (k_ : Int) : Option (Int × List (El kEntry)) := l_markEntryS.F (fun y0 y1 => some (y0, y1)) a k_
theorem l_markEntryS_nat {S : Type} (g : (Int × List (El kEntry)) → Option S) (a : List (El kEntry)) (k_ : Int) : l_markEntryS.F (fun y0 y1 => g (y0, y1)) a k_ = (l_markEntryS a k_).bind g := l_markEntryS.F_nat g (fun y0 y1 => some (y0, y1)) a k_
def l_markEntryS.out : (Int × List (El kEntry)) → CRes := fun a => ⟨encL SV.enc [.one (.int .i64)] (a.1, ()), [encL SC.enc [.own [] kEntry true] (a.2, ()), encL SC.enc [] ()]⟩
def l_markEntryS.ps : List PS := [.val [some (kEntry, true)], .val [none]]
def l_markEntryS.sA : List SA := [.v (.one (.own [] kEntry true)), .v (.one (.int .i64))]
def l_markEntryS.fi : FI := FIs l_markEntryS.sA (Int × List (El kEntry)) (fun t => l_markEntryS t.1 t.2.1) l_markEntryS.out l_markEntryS.ps
def l_markEntryS.E : Env := ⟨tt, lkF [(98, l_markText.fi)], 35, 1, [], []⟩
def l_markEntryS.sh1 : SK := ⟨[.v (.one (.slo 0)), .v (.one (.int .i64)), .v (.one (.int .i64))], [.arr kEntry [] true]⟩
def l_markEntryS.sh1e0 : SK := ⟨[.v (.one (.int .i64))], [.arr kEntry [] true]⟩
def l_markEntryS.ko1 : Ex → List CastAt × List Nat
  | .nrm => ([], [])
  | .ret => ([], [])
  | .ext i => cond (Nat.beq i 0) ([], [1]) ([], [])
def l_markEntryS.G1 (n : Nat) (R : Type) (t : l_markEntryS.sh1.T) (K : Ex → Kp → Option R) : Option R := l_markEntryS.l1 (fun y0 y1 => K (.ext 0) (SK.enc l_markEntryS.sh1e0 ((y0, ()), (y1, ())))) n t.1.2.1 t.1.2.2.1 t.2.1
def l_markEntryS.S1 : Sum := ⟨([], [0, 1, 5]), sumF l_markEntryS.sh1 (l_markEntryS.G1 fuel), l_markEntryS.ko1⟩
theorem l_markEntryS.ok1 (hE : EOk Tryz.prog (l_markEntryS.E)) : SumOk Tryz.prog l_markEntryS.E (cB (cR (cL (cR (bodyOf Tryz.f51))))) (l_markEntryS.S1) := by
  have hh : HintOk Tryz.prog l_markEntryS.E (cB (cB (cR (cL (cR (bodyOf Tryz.f51)))))) (.a) := HintOk.n1 (Q := True) (by kernel_rfl) trivial
  have h := loopS (kin := ([], [0, 1, 5])) (kout := l_markEntryS.ko1) (sh := l_markEntryS.sh1) (F := l_markEntryS.G1) (ops_ok (hE.gv _)) (by kernel_rfl) hh (fun _ _ _ => rfl) (fun n R t K => by kernel_rfl) fuel
  exact HintOk.n1 (c := (cB (cR (cL (cR (bodyOf Tryz.f51)))))) (h := .s (l_markEntryS.S1)) (P := Tryz.prog) (E := l_markEntryS.E) (by kernel_rfl) h
theorem l_markEntryS.hok (hE : EOk Tryz.prog (l_markEntryS.E)) : HintOk Tryz.prog l_markEntryS.E (bodyOf Tryz.f51) (.n (.a) (.n (.n (.a) (.b (.s (l_markEntryS.S1)))) (.a))) := HintOk.n1 (Q := (True) ∧ (((True) ∧ (SumOk Tryz.prog l_markEntryS.E (cB (cR (cL (cR (bodyOf Tryz.f51))))) (l_markEntryS.S1))) ∧ (True))) (by kernel_rfl) ⟨trivial, ⟨⟨trivial, (l_markEntryS.ok1 hE)⟩, trivial⟩⟩
theorem l_markEntryS.hE : EOk Tryz.prog (l_markEntryS.E) := EOk.of ttOk (⟨l_markText.fok, trivial⟩)
theorem l_markEntryS.fok : FOk Tryz.prog 51 l_markEntryS.fi :=
  fokS (E := l_markEntryS.E) (wy := ⟨[[none]], [[], []], []⟩) (h := (fun gs => .n (.a) (.n (.n (.a) (.b (.s (l_markEntryS.S1)))) (.a)))) (G := fun t g => l_markEntryS.F (fun y0 y1 => g (y0, y1)) t.1 t.2.1) (by kernel_rfl) l_markEntryS.hE Tryz.func51 (by kernel_rfl) rfl (Nat.le_refl _) (fun t => HintOk.n1 (by kernel_rfl) (l_markEntryS.hok l_markEntryS.hE)) (fun t g => l_markEntryS_nat g t.1 t.2.1) (fun t => by kernel_rfl)
/-! loop.example_g00220_laws.markState -/
def l_markState.F {R : Type} (kk : Int → List (El kEntry) → Option R) (a_Term : Int) (a_Vote : Int) (a_Log : List (El kEntry)) (k_ : Int) : Option R :=
  (l_markEntryS a_Log k_).bind fun r =>
  kk r.1 r.2
theorem l_markState.F_nat {R S : Type} (g : R → Option S) (kk : Int → List (El kEntry) → Option R) (a_Term : Int) (a_Vote : Int) (a_Log : List (El kEntry)) (k_ : Int) : l_markState.F (fun y0 y1 => (kk y0 y1).bind g) a_Term a_Vote a_Log k_ = (l_markState.F kk a_Term a_Vote a_Log k_).bind g := by
  simp only [l_markState.F, grd_bind, cnd_bind, bnd_bind, non_bind]
def l_markState (a_Term : Int) (a_Vote : Int) (a_Log : List (El kEntry)) (k_ : Int) : Option (Int × List (El kEntry)) := l_markState.F (fun y0 y1 => some (y0, y1)) a_Term a_Vote a_Log k_
theorem l_markState_nat {S : Type} (g : (Int × List (El kEntry)) → Option S) (a_Term : Int) (a_Vote : Int) (a_Log : List (El kEntry)) (k_ : Int) : l_markState.F (fun y0 y1 => g (y0, y1)) a_Term a_Vote a_Log k_ = (l_markState a_Term a_Vote a_Log k_).bind g := l_markState.F_nat g (fun y0 y1 => some (y0, y1)) a_Term a_Vote a_Log k_
def l_markState.out : (Int × List (El kEntry)) → CRes := fun a => ⟨encL SV.enc [.one (.int .i64)] (a.1, ()), [encL SC.enc [.own [] kEntry true] (a.2, ()), encL SC.enc [] ()]⟩
def l_markState.ps : List PS := [.val [none, none, some (kEntry, true)], .val [none]]
def l_markState.sA : List SA := [.v (.agg [.int .i64, .int .i64, .own [] kEntry true]), .v (.one (.int .i64))]
def l_markState.fi : FI := FIs l_markState.sA (Int × List (El kEntry)) (fun t => l_markState t.1.1 t.1.2.1 t.1.2.2.1 t.2.1) l_markState.out l_markState.ps
def l_markState.E : Env := ⟨tt, lkF [(51, l_markEntryS.fi)], 10, 1, [], []⟩
theorem l_markState.hok (hE : EOk Tryz.prog (l_markState.E)) : HintOk Tryz.prog l_markState.E (bodyOf Tryz.f14) (.a) := HintOk.n1 (Q := True) (by kernel_rfl) trivial
theorem l_markState.hE : EOk Tryz.prog (l_markState.E) := EOk.of ttOk (⟨l_markEntryS.fok, trivial⟩)
theorem l_markState.fok : FOk Tryz.prog 14 l_markState.fi :=
  fokS (E := l_markState.E) (wy := ⟨[[none]], [[], []], []⟩) (h := (fun gs => .a)) (G := fun t g => l_markState.F (fun y0 y1 => g (y0, y1)) t.1.1 t.1.2.1 t.1.2.2.1 t.2.1) (by kernel_rfl) l_markState.hE Tryz.func14 (by kernel_rfl) rfl (Nat.le_refl _) (fun t => HintOk.n1 (by kernel_rfl) (l_markState.hok l_markState.hE)) (fun t g => l_markState_nat g t.1.1 t.1.2.1 t.1.2.2.1 t.2.1) (fun t => by kernel_rfl)
/-! loop.example_g00220_laws.heldEntryS -/
def l_heldEntryS.l1 {R : Type} (kke0 : Int → Option R) (kkr : Int → Option R) : Nat → List (El kEntry) → Int → Int → Option R
  | 0, _, _, _ => none
  | n + 1, a, k_, i =>
    cond (decide (i < (List.length a : Int))) (
      grd (gIx i (List.length a)) <|
      cond ((rdE kEntry a (Int.toNat i)).1 != k_) (kkr (-1 : Int)) (
        grd (gIx i (List.length a)) <|
        cond ((rdE kEntry a (Int.toNat i)).2.1 != (IntKind.wrap .i64 (k_ + (1 : Int)))) (kkr (-1 : Int)) (
          grd (gIx i (List.length a)) <|
          (l_markText (IntKind.wrap .i64 ((IntKind.wrap .i64 (k_ + (1 : Int))) + (1 : Int)))).bind fun r =>
          cond (!(sEq (rdE kEntry a (Int.toNat i)).2.2 r)) (kkr (-1 : Int)) (
            l_heldEntryS.l1 kke0 kkr n a (IntKind.wrap .i64 ((IntKind.wrap .i64 ((IntKind.wrap .i64 (k_ + (1 : Int))) + (1 : Int))) + (1 : Int))) (IntKind.wrap .i64 (i + (1 : Int))))))) (kke0 k_)
theorem l_heldEntryS.l1_nat {R S : Type} (g : R → Option S) (kke0 : Int → Option R) (kkr : Int → Option R) : ∀ (n : Nat) (a : List (El kEntry)) (k_ : Int) (i : Int), l_heldEntryS.l1 (fun y0 => (kke0 y0).bind g) (fun y0 => (kkr y0).bind g) n a k_ i = (l_heldEntryS.l1 kke0 kkr n a k_ i).bind g := by
  intro n
  induction n with
  | zero => intros; rfl
  | succ n ih => intros; simp only [l_heldEntryS.l1, grd_bind, cnd_bind, bnd_bind, non_bind, ih]
def l_heldEntryS.F {R : Type} (kk : Int → Option R) (a : List (El kEntry)) (k_ : Int) : Option R :=
  l_heldEntryS.l1 (fun k_1 => kk k_1) (fun i => kk i) fuel a k_ (0 : Int)
theorem l_heldEntryS.F_nat {R S : Type} (g : R → Option S) (kk : Int → Option R) (a : List (El kEntry)) (k_ : Int) : l_heldEntryS.F (fun y0 => (kk y0).bind g) a k_ = (l_heldEntryS.F kk a k_).bind g := by
  simp only [l_heldEntryS.F, grd_bind, cnd_bind, bnd_bind, non_bind, ← l_heldEntryS.l1_nat]
def l_heldEntryS (a : List (El kEntry)) (k_ : Int) : Option Int := l_heldEntryS.F (fun y0 => some y0) a k_
theorem l_heldEntryS_nat {S : Type} (g : Int → Option S) (a : List (El kEntry)) (k_ : Int) : l_heldEntryS.F (fun y0 => g y0) a k_ = (l_heldEntryS a k_).bind g := l_heldEntryS.F_nat g (fun y0 => some y0) a k_
def l_heldEntryS.out : Int → CRes := fun a => ⟨encL SV.enc [.one (.int .i64)] (a, ()), [encL SC.enc [] (), encL SC.enc [] ()]⟩
def l_heldEntryS.ps : List PS := [.val [some (kEntry, false)], .val [none]]
def l_heldEntryS.sA : List SA := [.v (.one (.slv [] kEntry)), .v (.one (.int .i64))]
def l_heldEntryS.fi : FI := FIs l_heldEntryS.sA (Int) (fun t => l_heldEntryS t.1 t.2.1) l_heldEntryS.out l_heldEntryS.ps
def l_heldEntryS.E : Env := ⟨tt, lkF [(98, l_markText.fi)], 41, 0, [], []⟩
def l_heldEntryS.sh1 : SK := ⟨[.v (.one (.slv [1] kEntry)), .v (.one (.int .i64)), .v (.one (.int .i64))], []⟩
def l_heldEntryS.sh1e0 : SK := ⟨[.v (.one (.int .i64))], []⟩
def l_heldEntryS.sh1r : SK := ⟨[.v (.one (.int .i64))], []⟩
def l_heldEntryS.ko1 : Ex → List CastAt × List Nat
  | .nrm => ([], [])
  | .ret => ([], [4])
  | .ext i => cond (Nat.beq i 0) ([], [1]) ([], [])
def l_heldEntryS.G1 (n : Nat) (R : Type) (t : l_heldEntryS.sh1.T) (K : Ex → Kp → Option R) : Option R := l_heldEntryS.l1 (fun y0 => K (.ext 0) (SK.enc l_heldEntryS.sh1e0 ((y0, ()), ()))) (fun y0 => K .ret (SK.enc l_heldEntryS.sh1r ((y0, ()), ()))) n t.1.1 t.1.2.1 t.1.2.2.1
def l_heldEntryS.S1 : Sum := ⟨([], [0, 1, 5]), sumF l_heldEntryS.sh1 (l_heldEntryS.G1 fuel), l_heldEntryS.ko1⟩
theorem l_heldEntryS.ok1 (hE : EOk Tryz.prog (l_heldEntryS.E)) : SumOk Tryz.prog l_heldEntryS.E (cB (cR (cL (cR (bodyOf Tryz.f52))))) (l_heldEntryS.S1) := by
  have hh : HintOk Tryz.prog l_heldEntryS.E (cB (cB (cR (cL (cR (bodyOf Tryz.f52)))))) (.a) := HintOk.n1 (Q := True) (by kernel_rfl) trivial
  have h := loopS (kin := ([], [0, 1, 5])) (kout := l_heldEntryS.ko1) (sh := l_heldEntryS.sh1) (F := l_heldEntryS.G1) (ops_ok (hE.gv _)) (by kernel_rfl) hh (fun _ _ _ => rfl) (fun n R t K => by kernel_rfl) fuel
  exact HintOk.n1 (c := (cB (cR (cL (cR (bodyOf Tryz.f52)))))) (h := .s (l_heldEntryS.S1)) (P := Tryz.prog) (E := l_heldEntryS.E) (by kernel_rfl) h
theorem l_heldEntryS.hok (hE : EOk Tryz.prog (l_heldEntryS.E)) : HintOk Tryz.prog l_heldEntryS.E (bodyOf Tryz.f52) (.n (.a) (.n (.n (.a) (.b (.s (l_heldEntryS.S1)))) (.a))) := HintOk.n1 (Q := (True) ∧ (((True) ∧ (SumOk Tryz.prog l_heldEntryS.E (cB (cR (cL (cR (bodyOf Tryz.f52))))) (l_heldEntryS.S1))) ∧ (True))) (by kernel_rfl) ⟨trivial, ⟨⟨trivial, (l_heldEntryS.ok1 hE)⟩, trivial⟩⟩
theorem l_heldEntryS.hE : EOk Tryz.prog (l_heldEntryS.E) := EOk.of ttOk (⟨l_markText.fok, trivial⟩)
theorem l_heldEntryS.fok : FOk Tryz.prog 52 l_heldEntryS.fi :=
  fokS (E := l_heldEntryS.E) (wy := ⟨[[none]], [[], []], []⟩) (h := (fun gs => .n (.a) (.n (.n (.a) (.b (.s (l_heldEntryS.S1)))) (.a)))) (G := fun t g => l_heldEntryS.F (fun y0 => g y0) t.1 t.2.1) (by kernel_rfl) l_heldEntryS.hE Tryz.func52 (by kernel_rfl) rfl (Nat.le_refl _) (fun t => HintOk.n1 (by kernel_rfl) (l_heldEntryS.hok l_heldEntryS.hE)) (fun t g => l_heldEntryS_nat g t.1 t.2.1) (fun t => by kernel_rfl)
/-! loop.example_g00220_laws.heldState -/
def l_heldState.F {R : Type} (kk : Int → Option R) (a_Term : Int) (a_Vote : Int) (a_Log : List (El kEntry)) (k_ : Int) : Option R :=
  (l_heldEntryS a_Log k_).bind fun r =>
  cond (decide (r < (0 : Int))) (kk (-1 : Int)) (kk r)
theorem l_heldState.F_nat {R S : Type} (g : R → Option S) (kk : Int → Option R) (a_Term : Int) (a_Vote : Int) (a_Log : List (El kEntry)) (k_ : Int) : l_heldState.F (fun y0 => (kk y0).bind g) a_Term a_Vote a_Log k_ = (l_heldState.F kk a_Term a_Vote a_Log k_).bind g := by
  simp only [l_heldState.F, grd_bind, cnd_bind, bnd_bind, non_bind]
def l_heldState (a_Term : Int) (a_Vote : Int) (a_Log : List (El kEntry)) (k_ : Int) : Option Int := l_heldState.F (fun y0 => some y0) a_Term a_Vote a_Log k_
theorem l_heldState_nat {S : Type} (g : Int → Option S) (a_Term : Int) (a_Vote : Int) (a_Log : List (El kEntry)) (k_ : Int) : l_heldState.F (fun y0 => g y0) a_Term a_Vote a_Log k_ = (l_heldState a_Term a_Vote a_Log k_).bind g := l_heldState.F_nat g (fun y0 => some y0) a_Term a_Vote a_Log k_
def l_heldState.out : Int → CRes := fun a => ⟨encL SV.enc [.one (.int .i64)] (a, ()), [encL SC.enc [] (), encL SC.enc [] ()]⟩
def l_heldState.ps : List PS := [.val [none, none, some (kEntry, false)], .val [none]]
def l_heldState.sA : List SA := [.v (.agg [.int .i64, .int .i64, .slv [] kEntry]), .v (.one (.int .i64))]
def l_heldState.fi : FI := FIs l_heldState.sA (Int) (fun t => l_heldState t.1.1 t.1.2.1 t.1.2.2.1 t.2.1) l_heldState.out l_heldState.ps
def l_heldState.E : Env := ⟨tt, lkF [(52, l_heldEntryS.fi)], 12, 0, [], []⟩
theorem l_heldState.hok (hE : EOk Tryz.prog (l_heldState.E)) : HintOk Tryz.prog l_heldState.E (bodyOf Tryz.f15) (.a) := HintOk.n1 (Q := True) (by kernel_rfl) trivial
theorem l_heldState.hE : EOk Tryz.prog (l_heldState.E) := EOk.of ttOk (⟨l_heldEntryS.fok, trivial⟩)
theorem l_heldState.fok : FOk Tryz.prog 15 l_heldState.fi :=
  fokS (E := l_heldState.E) (wy := ⟨[[none]], [[], []], []⟩) (h := (fun gs => .a)) (G := fun t g => l_heldState.F (fun y0 => g y0) t.1.1 t.1.2.1 t.1.2.2.1 t.2.1) (by kernel_rfl) l_heldState.hE Tryz.func15 (by kernel_rfl) rfl (Nat.le_refl _) (fun t => HintOk.n1 (by kernel_rfl) (l_heldState.hok l_heldState.hE)) (fun t g => l_heldState_nat g t.1.1 t.1.2.1 t.1.2.2.1 t.2.1) (fun t => by kernel_rfl)
/-! loop.example_g00220_laws.FnExactLoadState -/
def l_FnExactLoadState.F {R : Type} (kk : Bool → Option R) (aD_Room : Int) (aD_Files : List (El kFile)) : Option R :=
  (l_szDisk aD_Room aD_Files (1048576 : Int)).bind fun r =>
  cond (decide (r < (0 : Int))) (kk true) (
    (l_toDisk aD_Room aD_Files).bind fun r1 =>
    (s_LoadState r1.1 r1.2).bind fun r2 =>
    (l_toDisk aD_Room aD_Files).bind fun r3 =>
    (i_LoadState r3.1 r3.2).bind fun r4 =>
    (l_eqState r4.1 r4.2.1 r4.2.2.1 r2.1 r2.2.1 r2.2.2.1).bind fun r5 =>
    cond (!r5) (kk false) (
      cond (r4.2.2.2 != r2.2.2.2) (kk false) (
        (l_toDisk aD_Room aD_Files).bind fun r6 =>
        (l_eqDisk r3.1 r3.2 r6.1 r6.2).bind fun r7 =>
        cond (!r7) (kk false) (
          (l_markDisk r3.1 r3.2 (1 : Int)).bind fun r8 =>
          cond (decide (r8.1 < (0 : Int))) (kk false) (
            (l_eqState r4.1 r4.2.1 r4.2.2.1 r2.1 r2.2.1 r2.2.2.1).bind fun r9 =>
            cond (!r9) (kk false) (
              cond (r4.2.2.2 != r2.2.2.2) (kk false) (
                (l_markState r4.1 r4.2.1 r4.2.2.1 (1 : Int)).bind fun r10 =>
                (l_heldState r4.1 r4.2.1 r10.2 (1 : Int)).bind fun r11 =>
                cond (decide (r11 < (0 : Int))) (kk false) (
                  cond (r11 != r10.1) (kk false) (
                    (l_toDisk aD_Room aD_Files).bind fun r12 =>
                    (i_LoadState r12.1 r12.2).bind fun r13 =>
                    (l_eqState r13.1 r13.2.1 r13.2.2.1 r2.1 r2.2.1 r2.2.2.1).bind fun r14 =>
                    cond (!r14) (kk false) (
                      cond (r13.2.2.2 != r2.2.2.2) (kk false) (
                        (l_heldState r4.1 r4.2.1 r10.2 (1 : Int)).bind fun r15 =>
                        cond (decide (r15 < (0 : Int))) (kk false) (cond (r15 != r10.1) (kk false) (kk true)))))))))))))
theorem l_FnExactLoadState.F_nat {R S : Type} (g : R → Option S) (kk : Bool → Option R) (aD_Room : Int) (aD_Files : List (El kFile)) : l_FnExactLoadState.F (fun y0 => (kk y0).bind g) aD_Room aD_Files = (l_FnExactLoadState.F kk aD_Room aD_Files).bind g := by
  simp only [l_FnExactLoadState.F, grd_bind, cnd_bind, bnd_bind, non_bind]
def l_FnExactLoadState (aD_Room : Int) (aD_Files : List (El kFile)) : Option Bool := l_FnExactLoadState.F (fun y0 => some y0) aD_Room aD_Files
theorem l_FnExactLoadState_nat {S : Type} (g : Bool → Option S) (aD_Room : Int) (aD_Files : List (El kFile)) : l_FnExactLoadState.F (fun y0 => g y0) aD_Room aD_Files = (l_FnExactLoadState aD_Room aD_Files).bind g := l_FnExactLoadState.F_nat g (fun y0 => some y0) aD_Room aD_Files
def l_FnExactLoadState.out : Bool → CRes := fun a => ⟨encL SV.enc [.one (.bool)] (a, ()), [encL SC.enc [] ()]⟩
def l_FnExactLoadState.ps : List PS := [.val [none, some (kFile, false)]]
def l_FnExactLoadState.sA : List SA := [.v (.agg [.int .i64, .slv [] kFile])]
def l_FnExactLoadState.fi : FI := FIs l_FnExactLoadState.sA (Bool) (fun t => l_FnExactLoadState t.1.1 t.1.2.1) l_FnExactLoadState.out l_FnExactLoadState.ps
def l_FnExactLoadState.E : Env := ⟨tt, lkF [(7, l_szDisk.fi), (8, s_LoadState.fi), (9, l_toDisk.fi), (10, i_LoadState.fi), (11, l_eqState.fi), (12, l_eqDisk.fi), (13, l_markDisk.fi), (14, l_markState.fi), (15, l_heldState.fi)], 96, 0, [], []⟩
theorem l_FnExactLoadState.hok (hE : EOk Tryz.prog (l_FnExactLoadState.E)) : HintOk Tryz.prog l_FnExactLoadState.E (bodyOf Tryz.f3) (.a) := HintOk.n1 (Q := True) (by kernel_rfl) trivial
theorem l_FnExactLoadState.hE : EOk Tryz.prog (l_FnExactLoadState.E) := EOk.of ttOk (⟨l_szDisk.fok, ⟨s_LoadState.fok, ⟨l_toDisk.fok, ⟨i_LoadState.fok, ⟨l_eqState.fok, ⟨l_eqDisk.fok, ⟨l_markDisk.fok, ⟨l_markState.fok, ⟨l_heldState.fok, trivial⟩⟩⟩⟩⟩⟩⟩⟩⟩)
theorem l_FnExactLoadState.fok : FOk Tryz.prog 3 l_FnExactLoadState.fi :=
  fokS (E := l_FnExactLoadState.E) (wy := ⟨[[none]], [[]], []⟩) (h := (fun gs => .a)) (G := fun t g => l_FnExactLoadState.F (fun y0 => g y0) t.1.1 t.1.2.1) (by kernel_rfl) l_FnExactLoadState.hE Tryz.func3 (by kernel_rfl) rfl (Nat.le_refl _) (fun t => HintOk.n1 (by kernel_rfl) (l_FnExactLoadState.hok l_FnExactLoadState.hE)) (fun t g => l_FnExactLoadState_nat g t.1.1 t.1.2.1) (fun t => by kernel_rfl)
end
end Go.Proofs.YtdpjbeeokimnaaaGreatDoorA
