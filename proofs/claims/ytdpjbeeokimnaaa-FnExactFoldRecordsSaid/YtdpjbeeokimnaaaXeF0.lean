/-
  Functions of the program, and that the small machine's runs are these. No condition.
  Printed by wip/amp/main.py (a session's own program) out of Lean's print of the program; Lean's kernel checks it.
-/
import Derived.Test.YtdpjbeeokimnaaaXeT
namespace Go.Proofs.YtdpjbeeokimnaaaA
open Go
noncomputable section
set_option linter.unusedVariables false
set_option linter.unusedSimpArgs false
set_option maxRecDepth 100000

/-! loop.example_g00220_spec.l00Source -/
def s_l00Source.F {R : Type} (kk : List Int → Int → Int → Option R) (code : List Int) : Option R :=
  grd (gNz (1000 : Int)) <|
  kk code (0 : Int) (Int.tmod (List.length code : Int) (1000 : Int))
theorem s_l00Source.F_nat {R S : Type} (g : R → Option S) (kk : List Int → Int → Int → Option R) (code : List Int) : s_l00Source.F (fun y0 y1 y2 => (kk y0 y1 y2).bind g) code = (s_l00Source.F kk code).bind g := by
  simp only [s_l00Source.F, grd_bind, cnd_bind, bnd_bind, non_bind]
def s_l00Source (code : List Int) : Option (List Int × Int × Int) := s_l00Source.F (fun y0 y1 y2 => some (y0, y1, y2)) code
theorem s_l00Source_nat {S : Type} (g : (List Int × Int × Int) → Option S) (code : List Int) : s_l00Source.F (fun y0 y1 y2 => g (y0, y1, y2)) code = (s_l00Source code).bind g := s_l00Source.F_nat g (fun y0 y1 y2 => some (y0, y1, y2)) code
def s_l00Source.E : Env := ⟨tt, lkF [], 9, 0, [], []⟩
def s_l00Source.out : (List Int × Int × Int) → CRes := fun a => ⟨encL SV.enc [.pbx [.slv [1] (.int .u8), .int .i64, .int .i64]] ((a.1, a.2.1, a.2.2, ()), ()), [encL SC.enc [] ()]⟩
def s_l00Source.ps : List PS := [.val [some ((.int .u8), false)]]
def s_l00Source.sA : List SA := [.v (.one (.slv [] (.int .u8)))]
def s_l00Source.fi : FI := FIs s_l00Source.sA (List Int × Int × Int) (fun t => s_l00Source t.1) s_l00Source.out s_l00Source.ps
theorem s_l00Source.hok (hE : EOk Try.prog (s_l00Source.E)) : HintOk Try.prog s_l00Source.E (bodyOf Try.f45) (.a) := HintOk.n1 (Q := True) (by kernel_rfl) trivial
theorem s_l00Source.hE : EOk Try.prog (s_l00Source.E) := EOk.of ttOk (trivial)
theorem s_l00Source.fok : FOk Try.prog 45 s_l00Source.fi :=
  fokS (E := s_l00Source.E) (wy := ⟨[[some ((.int .u8), false), none, none]], [[]], []⟩) (h := (fun gs => .a)) (G := fun t g => s_l00Source.F (fun y0 y1 y2 => g (y0, y1, y2)) t.1) (by kernel_rfl) s_l00Source.hE Try.func45 (by kernel_rfl) rfl (Nat.le_refl _) (fun t => HintOk.n1 (by kernel_rfl) (s_l00Source.hok s_l00Source.hE)) (fun t g => s_l00Source_nat g t.1) (fun t => by kernel_rfl)
/-! __loop.example_g00220_spec.l00Src_.byte -/
def s_l00Src_byte.F {R : Type} (kk : Int → List Int → Int → Int → Option R) (s_code : List Int) (s_at : Int) (s_seed : Int) : Option R :=
  cond (decide ((IntKind.wrap .i64 (s_at + (1 : Int))) ≤ (List.length s_code : Int))) (
    grd (gIx (IntKind.wrap .i64 ((IntKind.wrap .i64 (s_at + (1 : Int))) - (1 : Int))) (List.length s_code)) <|
    grd (gNz (2147483648 : Int)) <|
    grd (gIx (IntKind.wrap .i64 ((IntKind.wrap .i64 (s_at + (1 : Int))) - (1 : Int))) (List.length s_code)) <|
    kk (IntKind.wrap .i64 (rdE (.int .u8 : Kd) s_code (Int.toNat (IntKind.wrap .i64 ((IntKind.wrap .i64 (s_at + (1 : Int))) - (1 : Int)))))) s_code (IntKind.wrap .i64 (s_at + (1 : Int))) (Int.tmod (IntKind.wrap .i64 ((IntKind.wrap .i64 ((IntKind.wrap .i64 (s_seed * (31 : Int))) + (IntKind.wrap .i64 (rdE (.int .u8 : Kd) s_code (Int.toNat (IntKind.wrap .i64 ((IntKind.wrap .i64 (s_at + (1 : Int))) - (1 : Int)))))))) + (7 : Int))) (2147483648 : Int))) (
    cond (decide ((IntKind.wrap .i64 (s_at + (1 : Int))) > (3000 : Int))) (kk (0 : Int) s_code (IntKind.wrap .i64 (s_at + (1 : Int))) s_seed) (
      grd (gNz (2147483648 : Int)) <|
      grd (gNz (65536 : Int)) <|
      grd (gNz (256 : Int)) <|
      kk (Int.tmod (IntKind.wrap .i64 (Int.tdiv (Int.tmod (IntKind.wrap .i64 ((IntKind.wrap .i64 (s_seed * (1103515245 : Int))) + (12345 : Int))) (2147483648 : Int)) (65536 : Int))) (256 : Int)) s_code (IntKind.wrap .i64 (s_at + (1 : Int))) (Int.tmod (IntKind.wrap .i64 ((IntKind.wrap .i64 (s_seed * (1103515245 : Int))) + (12345 : Int))) (2147483648 : Int))))
theorem s_l00Src_byte.F_nat {R S : Type} (g : R → Option S) (kk : Int → List Int → Int → Int → Option R) (s_code : List Int) (s_at : Int) (s_seed : Int) : s_l00Src_byte.F (fun y0 y1 y2 y3 => (kk y0 y1 y2 y3).bind g) s_code s_at s_seed = (s_l00Src_byte.F kk s_code s_at s_seed).bind g := by
  simp only [s_l00Src_byte.F, grd_bind, cnd_bind, bnd_bind, non_bind]
def s_l00Src_byte (s_code : List Int) (s_at : Int) (s_seed : Int) : Option (Int × List Int × Int × Int) := s_l00Src_byte.F (fun y0 y1 y2 y3 => some (y0, y1, y2, y3)) s_code s_at s_seed
theorem s_l00Src_byte_nat {S : Type} (g : (Int × List Int × Int × Int) → Option S) (s_code : List Int) (s_at : Int) (s_seed : Int) : s_l00Src_byte.F (fun y0 y1 y2 y3 => g (y0, y1, y2, y3)) s_code s_at s_seed = (s_l00Src_byte s_code s_at s_seed).bind g := s_l00Src_byte.F_nat g (fun y0 y1 y2 y3 => some (y0, y1, y2, y3)) s_code s_at s_seed
def s_l00Src_byte.E : Env := ⟨tt, lkF [], 76, 1, [], []⟩
def s_l00Src_byte.out : (Int × List Int × Int × Int) → CRes := fun a => ⟨encL SV.enc [.one (.int .i64)] (a.1, ()), [encL SC.enc [.slv [1] (.int .u8), .int .i64, .int .i64] (a.2.1, a.2.2.1, a.2.2.2, ())]⟩
def s_l00Src_byte.ps : List PS := [.ptr [some ((.int .u8), false), none, none]]
def s_l00Src_byte.sA : List SA := [.ptr [.slv [] (.int .u8), .int .i64, .int .i64]]
def s_l00Src_byte.fi : FI := FIs s_l00Src_byte.sA (Int × List Int × Int × Int) (fun t => s_l00Src_byte t.1.1 t.1.2.1 t.1.2.2.1) s_l00Src_byte.out s_l00Src_byte.ps
theorem s_l00Src_byte.hok (hE : EOk Try.prog (s_l00Src_byte.E)) : HintOk Try.prog s_l00Src_byte.E (bodyOf Try.f139) (.a) := HintOk.n1 (Q := True) (by kernel_rfl) trivial
theorem s_l00Src_byte.hE : EOk Try.prog (s_l00Src_byte.E) := EOk.of ttOk (trivial)
theorem s_l00Src_byte.fok : FOk Try.prog 139 s_l00Src_byte.fi :=
  fokS (E := s_l00Src_byte.E) (wy := ⟨[[none]], [[some ((.int .u8), false), none, none]], []⟩) (h := (fun gs => .a)) (G := fun t g => s_l00Src_byte.F (fun y0 y1 y2 y3 => g (y0, y1, y2, y3)) t.1.1 t.1.2.1 t.1.2.2.1) (by kernel_rfl) s_l00Src_byte.hE Try.func139 (by kernel_rfl) rfl (Nat.le_refl _) (fun t => HintOk.n1 (by kernel_rfl) (s_l00Src_byte.hok s_l00Src_byte.hE)) (fun t g => s_l00Src_byte_nat g t.1.1 t.1.2.1 t.1.2.2.1) (fun t => by kernel_rfl)
/-! __loop.example_g00220_spec.l00Src_.next -/
def s_l00Src_next.F {R : Type} (kk : Int → List Int → Int → Int → Option R) (s_code : List Int) (s_at : Int) (s_seed : Int) (n_ : Int) : Option R :=
  cond (decide (n_ ≤ (1 : Int))) (kk (0 : Int) s_code s_at s_seed) (
    cond (decide (n_ ≤ (256 : Int))) (
      (s_l00Src_byte s_code s_at s_seed).bind fun r =>
      grd (gNz n_) <|
      kk (Int.tmod r.1 n_) r.2.1 r.2.2.1 r.2.2.2) (
      (s_l00Src_byte s_code s_at s_seed).bind fun r1 =>
      (s_l00Src_byte r1.2.1 r1.2.2.1 r1.2.2.2).bind fun r2 =>
      (s_l00Src_byte r2.2.1 r2.2.2.1 r2.2.2.2).bind fun r3 =>
      grd (gNz n_) <|
      kk (Int.tmod (IntKind.wrap .i64 ((IntKind.wrap .i64 ((IntKind.wrap .i64 (r1.1 * (65536 : Int))) + (IntKind.wrap .i64 (r2.1 * (256 : Int))))) + r3.1)) n_) r3.2.1 r3.2.2.1 r3.2.2.2))
theorem s_l00Src_next.F_nat {R S : Type} (g : R → Option S) (kk : Int → List Int → Int → Int → Option R) (s_code : List Int) (s_at : Int) (s_seed : Int) (n_ : Int) : s_l00Src_next.F (fun y0 y1 y2 y3 => (kk y0 y1 y2 y3).bind g) s_code s_at s_seed n_ = (s_l00Src_next.F kk s_code s_at s_seed n_).bind g := by
  simp only [s_l00Src_next.F, grd_bind, cnd_bind, bnd_bind, non_bind]
def s_l00Src_next (s_code : List Int) (s_at : Int) (s_seed : Int) (n_ : Int) : Option (Int × List Int × Int × Int) := s_l00Src_next.F (fun y0 y1 y2 y3 => some (y0, y1, y2, y3)) s_code s_at s_seed n_
theorem s_l00Src_next_nat {S : Type} (g : (Int × List Int × Int × Int) → Option S) (s_code : List Int) (s_at : Int) (s_seed : Int) (n_ : Int) : s_l00Src_next.F (fun y0 y1 y2 y3 => g (y0, y1, y2, y3)) s_code s_at s_seed n_ = (s_l00Src_next s_code s_at s_seed n_).bind g := s_l00Src_next.F_nat g (fun y0 y1 y2 y3 => some (y0, y1, y2, y3)) s_code s_at s_seed n_
def s_l00Src_next.E : Env := ⟨tt, lkF [(139, s_l00Src_byte.fi)], 31, 1, [], []⟩
def s_l00Src_next.out : (Int × List Int × Int × Int) → CRes := fun a => ⟨encL SV.enc [.one (.int .i64)] (a.1, ()), [encL SC.enc [.slv [1] (.int .u8), .int .i64, .int .i64] (a.2.1, a.2.2.1, a.2.2.2, ()), encL SC.enc [] ()]⟩
def s_l00Src_next.ps : List PS := [.ptr [some ((.int .u8), false), none, none], .val [none]]
def s_l00Src_next.sA : List SA := [.ptr [.slv [] (.int .u8), .int .i64, .int .i64], .v (.one (.int .i64))]
def s_l00Src_next.fi : FI := FIs s_l00Src_next.sA (Int × List Int × Int × Int) (fun t => s_l00Src_next t.1.1 t.1.2.1 t.1.2.2.1 t.2.1) s_l00Src_next.out s_l00Src_next.ps
theorem s_l00Src_next.hok (hE : EOk Try.prog (s_l00Src_next.E)) : HintOk Try.prog s_l00Src_next.E (bodyOf Try.f91) (.a) := HintOk.n1 (Q := True) (by kernel_rfl) trivial
theorem s_l00Src_next.hE : EOk Try.prog (s_l00Src_next.E) := EOk.of ttOk (⟨s_l00Src_byte.fok, trivial⟩)
theorem s_l00Src_next.fok : FOk Try.prog 91 s_l00Src_next.fi :=
  fokS (E := s_l00Src_next.E) (wy := ⟨[[none]], [[some ((.int .u8), false), none, none], []], []⟩) (h := (fun gs => .a)) (G := fun t g => s_l00Src_next.F (fun y0 y1 y2 y3 => g (y0, y1, y2, y3)) t.1.1 t.1.2.1 t.1.2.2.1 t.2.1) (by kernel_rfl) s_l00Src_next.hE Try.func91 (by kernel_rfl) rfl (Nat.le_refl _) (fun t => HintOk.n1 (by kernel_rfl) (s_l00Src_next.hok s_l00Src_next.hE)) (fun t g => s_l00Src_next_nat g t.1.1 t.1.2.1 t.1.2.2.1 t.2.1) (fun t => by kernel_rfl)
/-! __loop.example_g00220_spec.l00Src_.pick -/
def s_l00Src_pick.F {R : Type} (kk : ByteArray → List Int → Int → Int → Option R) (s_code : List Int) (s_at : Int) (s_seed : Int) (list : List ByteArray) : Option R :=
  cond ((List.length list : Int) == (0 : Int)) (kk ByteArray.empty s_code s_at s_seed) (
    (s_l00Src_next s_code s_at s_seed (List.length list : Int)).bind fun r =>
    grd (gIx r.1 (List.length list)) <|
    kk (rdE (.str : Kd) list (Int.toNat r.1)) r.2.1 r.2.2.1 r.2.2.2)
theorem s_l00Src_pick.F_nat {R S : Type} (g : R → Option S) (kk : ByteArray → List Int → Int → Int → Option R) (s_code : List Int) (s_at : Int) (s_seed : Int) (list : List ByteArray) : s_l00Src_pick.F (fun y0 y1 y2 y3 => (kk y0 y1 y2 y3).bind g) s_code s_at s_seed list = (s_l00Src_pick.F kk s_code s_at s_seed list).bind g := by
  simp only [s_l00Src_pick.F, grd_bind, cnd_bind, bnd_bind, non_bind]
def s_l00Src_pick (s_code : List Int) (s_at : Int) (s_seed : Int) (list : List ByteArray) : Option (ByteArray × List Int × Int × Int) := s_l00Src_pick.F (fun y0 y1 y2 y3 => some (y0, y1, y2, y3)) s_code s_at s_seed list
theorem s_l00Src_pick_nat {S : Type} (g : (ByteArray × List Int × Int × Int) → Option S) (s_code : List Int) (s_at : Int) (s_seed : Int) (list : List ByteArray) : s_l00Src_pick.F (fun y0 y1 y2 y3 => g (y0, y1, y2, y3)) s_code s_at s_seed list = (s_l00Src_pick s_code s_at s_seed list).bind g := s_l00Src_pick.F_nat g (fun y0 y1 y2 y3 => some (y0, y1, y2, y3)) s_code s_at s_seed list
def s_l00Src_pick.E : Env := ⟨tt, lkF [(91, s_l00Src_next.fi)], 15, 1, [], []⟩
def s_l00Src_pick.out : (ByteArray × List Int × Int × Int) → CRes := fun a => ⟨encL SV.enc [.one (.str)] (a.1, ()), [encL SC.enc [.slv [1] (.int .u8), .int .i64, .int .i64] (a.2.1, a.2.2.1, a.2.2.2, ()), encL SC.enc [] ()]⟩
def s_l00Src_pick.ps : List PS := [.ptr [some ((.int .u8), false), none, none], .val [some (.str, false)]]
def s_l00Src_pick.sA : List SA := [.ptr [.slv [] (.int .u8), .int .i64, .int .i64], .v (.one (.slv [] .str))]
def s_l00Src_pick.fi : FI := FIs s_l00Src_pick.sA (ByteArray × List Int × Int × Int) (fun t => s_l00Src_pick t.1.1 t.1.2.1 t.1.2.2.1 t.2.1) s_l00Src_pick.out s_l00Src_pick.ps
theorem s_l00Src_pick.hok (hE : EOk Try.prog (s_l00Src_pick.E)) : HintOk Try.prog s_l00Src_pick.E (bodyOf Try.f101) (.a) := HintOk.n1 (Q := True) (by kernel_rfl) trivial
theorem s_l00Src_pick.hE : EOk Try.prog (s_l00Src_pick.E) := EOk.of ttOk (⟨s_l00Src_next.fok, trivial⟩)
theorem s_l00Src_pick.fok : FOk Try.prog 101 s_l00Src_pick.fi :=
  fokS (E := s_l00Src_pick.E) (wy := ⟨[[none]], [[some ((.int .u8), false), none, none], []], []⟩) (h := (fun gs => .a)) (G := fun t g => s_l00Src_pick.F (fun y0 y1 y2 y3 => g (y0, y1, y2, y3)) t.1.1 t.1.2.1 t.1.2.2.1 t.2.1) (by kernel_rfl) s_l00Src_pick.hE Try.func101 (by kernel_rfl) rfl (Nat.le_refl _) (fun t => HintOk.n1 (by kernel_rfl) (s_l00Src_pick.hok s_l00Src_pick.hE)) (fun t g => s_l00Src_pick_nat g t.1.1 t.1.2.1 t.1.2.2.1 t.2.1) (fun t => by kernel_rfl)
/-! __loop.example_g00220_spec.l00Src_.key -/
def s_l00Src_key.F {R : Type} (kk : ByteArray → List Int → Int → Int → Option R) (s_code : List Int) (s_at : Int) (s_seed : Int) : Option R :=
  (s_l00Src_pick s_code s_at s_seed [(⟨#[97]⟩ : ByteArray), (⟨#[98]⟩ : ByteArray), (⟨#[99]⟩ : ByteArray), (⟨#[97, 108, 112, 104, 97]⟩ : ByteArray), (⟨#[98, 101, 116, 97]⟩ : ByteArray)]).bind fun r =>
  kk r.1 r.2.1 r.2.2.1 r.2.2.2
theorem s_l00Src_key.F_nat {R S : Type} (g : R → Option S) (kk : ByteArray → List Int → Int → Int → Option R) (s_code : List Int) (s_at : Int) (s_seed : Int) : s_l00Src_key.F (fun y0 y1 y2 y3 => (kk y0 y1 y2 y3).bind g) s_code s_at s_seed = (s_l00Src_key.F kk s_code s_at s_seed).bind g := by
  simp only [s_l00Src_key.F, grd_bind, cnd_bind, bnd_bind, non_bind]
def s_l00Src_key (s_code : List Int) (s_at : Int) (s_seed : Int) : Option (ByteArray × List Int × Int × Int) := s_l00Src_key.F (fun y0 y1 y2 y3 => some (y0, y1, y2, y3)) s_code s_at s_seed
theorem s_l00Src_key_nat {S : Type} (g : (ByteArray × List Int × Int × Int) → Option S) (s_code : List Int) (s_at : Int) (s_seed : Int) : s_l00Src_key.F (fun y0 y1 y2 y3 => g (y0, y1, y2, y3)) s_code s_at s_seed = (s_l00Src_key s_code s_at s_seed).bind g := s_l00Src_key.F_nat g (fun y0 y1 y2 y3 => some (y0, y1, y2, y3)) s_code s_at s_seed
def s_l00Src_key.E : Env := ⟨tt, lkF [(101, s_l00Src_pick.fi)], 6, 1, [], []⟩
def s_l00Src_key.out : (ByteArray × List Int × Int × Int) → CRes := fun a => ⟨encL SV.enc [.one (.str)] (a.1, ()), [encL SC.enc [.slv [1] (.int .u8), .int .i64, .int .i64] (a.2.1, a.2.2.1, a.2.2.2, ())]⟩
def s_l00Src_key.ps : List PS := [.ptr [some ((.int .u8), false), none, none]]
def s_l00Src_key.sA : List SA := [.ptr [.slv [] (.int .u8), .int .i64, .int .i64]]
def s_l00Src_key.fi : FI := FIs s_l00Src_key.sA (ByteArray × List Int × Int × Int) (fun t => s_l00Src_key t.1.1 t.1.2.1 t.1.2.2.1) s_l00Src_key.out s_l00Src_key.ps
theorem s_l00Src_key.hok (hE : EOk Try.prog (s_l00Src_key.E)) : HintOk Try.prog s_l00Src_key.E (bodyOf Try.f92) (.a) := HintOk.n1 (Q := True) (by kernel_rfl) trivial
theorem s_l00Src_key.hE : EOk Try.prog (s_l00Src_key.E) := EOk.of ttOk (⟨s_l00Src_pick.fok, trivial⟩)
theorem s_l00Src_key.fok : FOk Try.prog 92 s_l00Src_key.fi :=
  fokS (E := s_l00Src_key.E) (wy := ⟨[[none]], [[some ((.int .u8), false), none, none]], []⟩) (h := (fun gs => .a)) (G := fun t g => s_l00Src_key.F (fun y0 y1 y2 y3 => g (y0, y1, y2, y3)) t.1.1 t.1.2.1 t.1.2.2.1) (by kernel_rfl) s_l00Src_key.hE Try.func92 (by kernel_rfl) rfl (Nat.le_refl _) (fun t => HintOk.n1 (by kernel_rfl) (s_l00Src_key.hok s_l00Src_key.hE)) (fun t g => s_l00Src_key_nat g t.1.1 t.1.2.1 t.1.2.2.1) (fun t => by kernel_rfl)
/-! __loop.example_g00220_spec.l00Src_.datum -/
def s_l00Src_datum.F {R : Type} (kk : ByteArray → List Int → Int → Int → Option R) (s_code : List Int) (s_at : Int) (s_seed : Int) : Option R :=
  (s_l00Src_pick s_code s_at s_seed [ByteArray.empty, (⟨#[49]⟩ : ByteArray), (⟨#[50]⟩ : ByteArray), (⟨#[120]⟩ : ByteArray), (⟨#[108, 111, 110, 103, 101, 114, 32, 118, 97, 108, 117, 101]⟩ : ByteArray)]).bind fun r =>
  kk r.1 r.2.1 r.2.2.1 r.2.2.2
theorem s_l00Src_datum.F_nat {R S : Type} (g : R → Option S) (kk : ByteArray → List Int → Int → Int → Option R) (s_code : List Int) (s_at : Int) (s_seed : Int) : s_l00Src_datum.F (fun y0 y1 y2 y3 => (kk y0 y1 y2 y3).bind g) s_code s_at s_seed = (s_l00Src_datum.F kk s_code s_at s_seed).bind g := by
  simp only [s_l00Src_datum.F, grd_bind, cnd_bind, bnd_bind, non_bind]
def s_l00Src_datum (s_code : List Int) (s_at : Int) (s_seed : Int) : Option (ByteArray × List Int × Int × Int) := s_l00Src_datum.F (fun y0 y1 y2 y3 => some (y0, y1, y2, y3)) s_code s_at s_seed
theorem s_l00Src_datum_nat {S : Type} (g : (ByteArray × List Int × Int × Int) → Option S) (s_code : List Int) (s_at : Int) (s_seed : Int) : s_l00Src_datum.F (fun y0 y1 y2 y3 => g (y0, y1, y2, y3)) s_code s_at s_seed = (s_l00Src_datum s_code s_at s_seed).bind g := s_l00Src_datum.F_nat g (fun y0 y1 y2 y3 => some (y0, y1, y2, y3)) s_code s_at s_seed
def s_l00Src_datum.E : Env := ⟨tt, lkF [(101, s_l00Src_pick.fi)], 6, 1, [], []⟩
def s_l00Src_datum.out : (ByteArray × List Int × Int × Int) → CRes := fun a => ⟨encL SV.enc [.one (.str)] (a.1, ()), [encL SC.enc [.slv [1] (.int .u8), .int .i64, .int .i64] (a.2.1, a.2.2.1, a.2.2.2, ())]⟩
def s_l00Src_datum.ps : List PS := [.ptr [some ((.int .u8), false), none, none]]
def s_l00Src_datum.sA : List SA := [.ptr [.slv [] (.int .u8), .int .i64, .int .i64]]
def s_l00Src_datum.fi : FI := FIs s_l00Src_datum.sA (ByteArray × List Int × Int × Int) (fun t => s_l00Src_datum t.1.1 t.1.2.1 t.1.2.2.1) s_l00Src_datum.out s_l00Src_datum.ps
theorem s_l00Src_datum.hok (hE : EOk Try.prog (s_l00Src_datum.E)) : HintOk Try.prog s_l00Src_datum.E (bodyOf Try.f93) (.a) := HintOk.n1 (Q := True) (by kernel_rfl) trivial
theorem s_l00Src_datum.hE : EOk Try.prog (s_l00Src_datum.E) := EOk.of ttOk (⟨s_l00Src_pick.fok, trivial⟩)
theorem s_l00Src_datum.fok : FOk Try.prog 93 s_l00Src_datum.fi :=
  fokS (E := s_l00Src_datum.E) (wy := ⟨[[none]], [[some ((.int .u8), false), none, none]], []⟩) (h := (fun gs => .a)) (G := fun t g => s_l00Src_datum.F (fun y0 y1 y2 y3 => g (y0, y1, y2, y3)) t.1.1 t.1.2.1 t.1.2.2.1) (by kernel_rfl) s_l00Src_datum.hE Try.func93 (by kernel_rfl) rfl (Nat.le_refl _) (fun t => HintOk.n1 (by kernel_rfl) (s_l00Src_datum.hok s_l00Src_datum.hE)) (fun t g => s_l00Src_datum_nat g t.1.1 t.1.2.1 t.1.2.2.1) (fun t => by kernel_rfl)
/-! __loop.example_g00220_spec.l00Src_.chance -/
def s_l00Src_chance.F {R : Type} (kk : Bool → List Int → Int → Int → Option R) (s_code : List Int) (s_at : Int) (s_seed : Int) (n_ : Int) : Option R :=
  (s_l00Src_next s_code s_at s_seed n_).bind fun r =>
  kk (r.1 == (IntKind.wrap .i64 (n_ - (1 : Int)))) r.2.1 r.2.2.1 r.2.2.2
theorem s_l00Src_chance.F_nat {R S : Type} (g : R → Option S) (kk : Bool → List Int → Int → Int → Option R) (s_code : List Int) (s_at : Int) (s_seed : Int) (n_ : Int) : s_l00Src_chance.F (fun y0 y1 y2 y3 => (kk y0 y1 y2 y3).bind g) s_code s_at s_seed n_ = (s_l00Src_chance.F kk s_code s_at s_seed n_).bind g := by
  simp only [s_l00Src_chance.F, grd_bind, cnd_bind, bnd_bind, non_bind]
def s_l00Src_chance (s_code : List Int) (s_at : Int) (s_seed : Int) (n_ : Int) : Option (Bool × List Int × Int × Int) := s_l00Src_chance.F (fun y0 y1 y2 y3 => some (y0, y1, y2, y3)) s_code s_at s_seed n_
theorem s_l00Src_chance_nat {S : Type} (g : (Bool × List Int × Int × Int) → Option S) (s_code : List Int) (s_at : Int) (s_seed : Int) (n_ : Int) : s_l00Src_chance.F (fun y0 y1 y2 y3 => g (y0, y1, y2, y3)) s_code s_at s_seed n_ = (s_l00Src_chance s_code s_at s_seed n_).bind g := s_l00Src_chance.F_nat g (fun y0 y1 y2 y3 => some (y0, y1, y2, y3)) s_code s_at s_seed n_
def s_l00Src_chance.E : Env := ⟨tt, lkF [(91, s_l00Src_next.fi)], 11, 1, [], []⟩
def s_l00Src_chance.out : (Bool × List Int × Int × Int) → CRes := fun a => ⟨encL SV.enc [.one (.bool)] (a.1, ()), [encL SC.enc [.slv [1] (.int .u8), .int .i64, .int .i64] (a.2.1, a.2.2.1, a.2.2.2, ()), encL SC.enc [] ()]⟩
def s_l00Src_chance.ps : List PS := [.ptr [some ((.int .u8), false), none, none], .val [none]]
def s_l00Src_chance.sA : List SA := [.ptr [.slv [] (.int .u8), .int .i64, .int .i64], .v (.one (.int .i64))]
def s_l00Src_chance.fi : FI := FIs s_l00Src_chance.sA (Bool × List Int × Int × Int) (fun t => s_l00Src_chance t.1.1 t.1.2.1 t.1.2.2.1 t.2.1) s_l00Src_chance.out s_l00Src_chance.ps
theorem s_l00Src_chance.hok (hE : EOk Try.prog (s_l00Src_chance.E)) : HintOk Try.prog s_l00Src_chance.E (bodyOf Try.f94) (.a) := HintOk.n1 (Q := True) (by kernel_rfl) trivial
theorem s_l00Src_chance.hE : EOk Try.prog (s_l00Src_chance.E) := EOk.of ttOk (⟨s_l00Src_next.fok, trivial⟩)
theorem s_l00Src_chance.fok : FOk Try.prog 94 s_l00Src_chance.fi :=
  fokS (E := s_l00Src_chance.E) (wy := ⟨[[none]], [[some ((.int .u8), false), none, none], []], []⟩) (h := (fun gs => .a)) (G := fun t g => s_l00Src_chance.F (fun y0 y1 y2 y3 => g (y0, y1, y2, y3)) t.1.1 t.1.2.1 t.1.2.2.1 t.2.1) (by kernel_rfl) s_l00Src_chance.hE Try.func94 (by kernel_rfl) rfl (Nat.le_refl _) (fun t => HintOk.n1 (by kernel_rfl) (s_l00Src_chance.hok s_l00Src_chance.hE)) (fun t g => s_l00Src_chance_nat g t.1.1 t.1.2.1 t.1.2.2.1 t.2.1) (fun t => by kernel_rfl)
/-! __loop.example_g00220_spec.l00Src_.command -/
def s_l00Src_command.j1 {R : Type} (kkn : List Int → Int → Int → Int → Int → Int → ByteArray → ByteArray → Int → Int → Int → ByteArray → ByteArray → Option R) (s : List Int) (s1 : Int) (s2 : Int) (i : Int) (i1 : Int) (i2 : Int) (s3 : ByteArray) (s4 : ByteArray) (c : Int) (c1 : Int) (c2 : Int) (c3 : ByteArray) (c4 : ByteArray) : Option R :=
  cond (c == (3 : Int)) (kkn s s1 s2 i i1 i2 s3 s4 c c1 c2 c3 ByteArray.empty) (kkn s s1 s2 i i1 i2 s3 s4 c c1 c2 c3 c4)
theorem s_l00Src_command.j1_nat {R S : Type} (g : R → Option S) (kkn : List Int → Int → Int → Int → Int → Int → ByteArray → ByteArray → Int → Int → Int → ByteArray → ByteArray → Option R) (s : List Int) (s1 : Int) (s2 : Int) (i : Int) (i1 : Int) (i2 : Int) (s3 : ByteArray) (s4 : ByteArray) (c : Int) (c1 : Int) (c2 : Int) (c3 : ByteArray) (c4 : ByteArray) : s_l00Src_command.j1 (fun y0 y1 y2 y3 y4 y5 y6 y7 y8 y9 y10 y11 y12 => (kkn y0 y1 y2 y3 y4 y5 y6 y7 y8 y9 y10 y11 y12).bind g) s s1 s2 i i1 i2 s3 s4 c c1 c2 c3 c4 = (s_l00Src_command.j1 kkn s s1 s2 i i1 i2 s3 s4 c c1 c2 c3 c4).bind g := by
  simp only [s_l00Src_command.j1, grd_bind, cnd_bind, bnd_bind, non_bind]
def s_l00Src_command.F {R : Type} (kk : Int → Int → Int → ByteArray → ByteArray → List Int → Int → Int → Option R) (s_code : List Int) (s_at : Int) (s_seed : Int) : Option R :=
  (s_l00Src_next s_code s_at s_seed (5 : Int)).bind fun r =>
  grd (gIx r.1 (List.length [(1 : Int), (1 : Int), (2 : Int), (2 : Int), (3 : Int)])) <|
  (s_l00Src_next r.2.1 r.2.2.1 r.2.2.2 (3 : Int)).bind fun r1 =>
  (s_l00Src_next r1.2.1 r1.2.2.1 r1.2.2.2 (5 : Int)).bind fun r2 =>
  (s_l00Src_key r2.2.1 r2.2.2.1 r2.2.2.2).bind fun r3 =>
  (s_l00Src_datum r3.2.1 r3.2.2.1 r3.2.2.2).bind fun r4 =>
  s_l00Src_command.j1 (fun s s1 s2 i i1 i2 s3 s4 c c1 c2 c3 c4 =>
    (s_l00Src_chance s s1 s2 (4 : Int)).bind fun r5 =>
    cond (r5.1) (
      (s_l00Src_next r5.2.1 r5.2.2.1 r5.2.2.2 (2 : Int)).bind fun r6 =>
      (s_l00Src_next r6.2.1 r6.2.2.1 r6.2.2.2 (3 : Int)).bind fun r7 =>
      kk (IntKind.wrap .i64 ((4 : Int) + r6.1)) (IntKind.wrap .i64 ((1 : Int) + r7.1)) (0 : Int) ByteArray.empty ByteArray.empty r7.2.1 r7.2.2.1 r7.2.2.2) (kk c c1 c2 c3 c4 r5.2.1 r5.2.2.1 r5.2.2.2)) r4.2.1 r4.2.2.1 r4.2.2.2 (0 : Int) (0 : Int) (0 : Int) ByteArray.empty ByteArray.empty (rdE (.int .i64 : Kd) [(1 : Int), (1 : Int), (2 : Int), (2 : Int), (3 : Int)] (Int.toNat r.1)) (IntKind.wrap .i64 ((1 : Int) + r1.1)) (IntKind.wrap .i64 ((1 : Int) + r2.1)) r3.1 r4.1
theorem s_l00Src_command.F_nat {R S : Type} (g : R → Option S) (kk : Int → Int → Int → ByteArray → ByteArray → List Int → Int → Int → Option R) (s_code : List Int) (s_at : Int) (s_seed : Int) : s_l00Src_command.F (fun y0 y1 y2 y3 y4 y5 y6 y7 => (kk y0 y1 y2 y3 y4 y5 y6 y7).bind g) s_code s_at s_seed = (s_l00Src_command.F kk s_code s_at s_seed).bind g := by
  simp only [s_l00Src_command.F, grd_bind, cnd_bind, bnd_bind, non_bind, ← s_l00Src_command.j1_nat]
def s_l00Src_command (s_code : List Int) (s_at : Int) (s_seed : Int) : Option (Int × Int × Int × ByteArray × ByteArray × List Int × Int × Int) := s_l00Src_command.F (fun y0 y1 y2 y3 y4 y5 y6 y7 => some (y0, y1, y2, y3, y4, y5, y6, y7)) s_code s_at s_seed
theorem s_l00Src_command_nat {S : Type} (g : (Int × Int × Int × ByteArray × ByteArray × List Int × Int × Int) → Option S) (s_code : List Int) (s_at : Int) (s_seed : Int) : s_l00Src_command.F (fun y0 y1 y2 y3 y4 y5 y6 y7 => g (y0, y1, y2, y3, y4, y5, y6, y7)) s_code s_at s_seed = (s_l00Src_command s_code s_at s_seed).bind g := s_l00Src_command.F_nat g (fun y0 y1 y2 y3 y4 y5 y6 y7 => some (y0, y1, y2, y3, y4, y5, y6, y7)) s_code s_at s_seed
def s_l00Src_command.E : Env := ⟨tt, lkF [(91, s_l00Src_next.fi), (92, s_l00Src_key.fi), (93, s_l00Src_datum.fi), (94, s_l00Src_chance.fi)], 34, 1, [], []⟩
def s_l00Src_command.sh1 : SK := ⟨[.v (.one (.bptr 0 0)), .v (.one (.bptr 1 0)), .v (.one (.bptr 2 0))], [.box [.slv [1] (.int .u8), .int .i64, .int .i64], .box [.int .i64, .int .i64, .int .i64, .str, .str], .box [.int .i64, .int .i64, .int .i64, .str, .str]]⟩
def s_l00Src_command.sh1n : SK := ⟨[.v (.one (.bptr 0 0)), .v (.one (.bptr 1 0)), .v (.one (.bptr 2 0))], [.box [.slv [1] (.int .u8), .int .i64, .int .i64], .box [.int .i64, .int .i64, .int .i64, .str, .str], .box [.int .i64, .int .i64, .int .i64, .str, .str]]⟩
def s_l00Src_command.ko1 : Ex → List CastAt × List Nat
  | .nrm => ([], [0, 2, 3])
  | .ret => ([], [])
  | .ext i => ([], [])
def s_l00Src_command.G1 (R : Type) (t : s_l00Src_command.sh1.T) (K : Ex → Kp → Option R) : Option R := s_l00Src_command.j1 (fun y0 y1 y2 y3 y4 y5 y6 y7 y8 y9 y10 y11 y12 => K .nrm (SK.enc s_l00Src_command.sh1n (((), (), (), ()), ((y0, y1, y2, ()), (y3, y4, y5, y6, y7, ()), (y8, y9, y10, y11, y12, ()), ())))) t.2.1.1 t.2.1.2.1 t.2.1.2.2.1 t.2.2.1.1 t.2.2.1.2.1 t.2.2.1.2.2.1 t.2.2.1.2.2.2.1 t.2.2.1.2.2.2.2.1 t.2.2.2.1.1 t.2.2.2.1.2.1 t.2.2.2.1.2.2.1 t.2.2.2.1.2.2.2.1 t.2.2.2.1.2.2.2.2.1
def s_l00Src_command.S1 : Sum := ⟨([], [0, 2, 3]), sumF s_l00Src_command.sh1 (s_l00Src_command.G1), s_l00Src_command.ko1⟩
theorem s_l00Src_command.ok1 (hE : EOk Try.prog (s_l00Src_command.E)) : SumOk Try.prog s_l00Src_command.E (cL (cR (cR (bodyOf Try.f46)))) (s_l00Src_command.S1) := by
  have hh : HintOk Try.prog s_l00Src_command.E (cL (cR (cR (bodyOf Try.f46)))) (.a) := HintOk.n1 (Q := True) (by kernel_rfl) trivial
  exact sumS (kin := ([], [0, 2, 3])) (kout := s_l00Src_command.ko1) (sh := s_l00Src_command.sh1) (F := s_l00Src_command.G1) (ops_ok (hE.gv _)) (by kernel_rfl) hh (fun R t K => by kernel_rfl)
def s_l00Src_command.out : (Int × Int × Int × ByteArray × ByteArray × List Int × Int × Int) → CRes := fun a => ⟨encL SV.enc [.agg [.int .i64, .int .i64, .int .i64, .str, .str]] ((a.1, a.2.1, a.2.2.1, a.2.2.2.1, a.2.2.2.2.1, ()), ()), [encL SC.enc [.slv [1] (.int .u8), .int .i64, .int .i64] (a.2.2.2.2.2.1, a.2.2.2.2.2.2.1, a.2.2.2.2.2.2.2, ())]⟩
def s_l00Src_command.ps : List PS := [.ptr [some ((.int .u8), false), none, none]]
def s_l00Src_command.sA : List SA := [.ptr [.slv [] (.int .u8), .int .i64, .int .i64]]
def s_l00Src_command.fi : FI := FIs s_l00Src_command.sA (Int × Int × Int × ByteArray × ByteArray × List Int × Int × Int) (fun t => s_l00Src_command t.1.1 t.1.2.1 t.1.2.2.1) s_l00Src_command.out s_l00Src_command.ps
theorem s_l00Src_command.hok (hE : EOk Try.prog (s_l00Src_command.E)) : HintOk Try.prog s_l00Src_command.E (bodyOf Try.f46) (.n (.a) (.n (.a) (.n (.s (s_l00Src_command.S1)) (.a)))) := HintOk.n1 (Q := (True) ∧ ((True) ∧ ((SumOk Try.prog s_l00Src_command.E (cL (cR (cR (bodyOf Try.f46)))) (s_l00Src_command.S1)) ∧ (True)))) (by kernel_rfl) ⟨trivial, ⟨trivial, ⟨(s_l00Src_command.ok1 hE), trivial⟩⟩⟩
theorem s_l00Src_command.hE : EOk Try.prog (s_l00Src_command.E) := EOk.of ttOk (⟨s_l00Src_next.fok, ⟨s_l00Src_key.fok, ⟨s_l00Src_datum.fok, ⟨s_l00Src_chance.fok, trivial⟩⟩⟩⟩)
theorem s_l00Src_command.fok : FOk Try.prog 46 s_l00Src_command.fi :=
  fokS (E := s_l00Src_command.E) (wy := ⟨[[none, none, none, none, none]], [[some ((.int .u8), false), none, none]], []⟩) (h := (fun gs => .n (.a) (.n (.a) (.n (.s (s_l00Src_command.S1)) (.a))))) (G := fun t g => s_l00Src_command.F (fun y0 y1 y2 y3 y4 y5 y6 y7 => g (y0, y1, y2, y3, y4, y5, y6, y7)) t.1.1 t.1.2.1 t.1.2.2.1) (by kernel_rfl) s_l00Src_command.hE Try.func46 (by kernel_rfl) rfl (Nat.le_refl _) (fun t => HintOk.n1 (by kernel_rfl) (s_l00Src_command.hok s_l00Src_command.hE)) (fun t g => s_l00Src_command_nat g t.1.1 t.1.2.1 t.1.2.2.1) (fun t => by kernel_rfl)
/-! loop.example_g00220_spec.CommandOf -/
def s_CommandOf.F {R : Type} (kk : Int → Int → Int → ByteArray → ByteArray → Option R) (code : List Int) : Option R :=
  (s_l00Source code).bind fun r =>
  (s_l00Src_command r.1 r.2.1 r.2.2).bind fun r1 =>
  kk r1.1 r1.2.1 r1.2.2.1 r1.2.2.2.1 r1.2.2.2.2.1
theorem s_CommandOf.F_nat {R S : Type} (g : R → Option S) (kk : Int → Int → Int → ByteArray → ByteArray → Option R) (code : List Int) : s_CommandOf.F (fun y0 y1 y2 y3 y4 => (kk y0 y1 y2 y3 y4).bind g) code = (s_CommandOf.F kk code).bind g := by
  simp only [s_CommandOf.F, grd_bind, cnd_bind, bnd_bind, non_bind]
def s_CommandOf (code : List Int) : Option (Int × Int × Int × ByteArray × ByteArray) := s_CommandOf.F (fun y0 y1 y2 y3 y4 => some (y0, y1, y2, y3, y4)) code
theorem s_CommandOf_nat {S : Type} (g : (Int × Int × Int × ByteArray × ByteArray) → Option S) (code : List Int) : s_CommandOf.F (fun y0 y1 y2 y3 y4 => g (y0, y1, y2, y3, y4)) code = (s_CommandOf code).bind g := s_CommandOf.F_nat g (fun y0 y1 y2 y3 y4 => some (y0, y1, y2, y3, y4)) code
def s_CommandOf.E : Env := ⟨tt, lkF [(45, s_l00Source.fi), (46, s_l00Src_command.fi)], 6, 0, [], []⟩
def s_CommandOf.out : (Int × Int × Int × ByteArray × ByteArray) → CRes := fun a => ⟨encL SV.enc [.agg [.int .i64, .int .i64, .int .i64, .str, .str]] ((a.1, a.2.1, a.2.2.1, a.2.2.2.1, a.2.2.2.2, ()), ()), [encL SC.enc [] ()]⟩
def s_CommandOf.ps : List PS := [.val [some ((.int .u8), false)]]
def s_CommandOf.sA : List SA := [.v (.one (.slv [] (.int .u8)))]
def s_CommandOf.fi : FI := FIs s_CommandOf.sA (Int × Int × Int × ByteArray × ByteArray) (fun t => s_CommandOf t.1) s_CommandOf.out s_CommandOf.ps
theorem s_CommandOf.hok (hE : EOk Try.prog (s_CommandOf.E)) : HintOk Try.prog s_CommandOf.E (bodyOf Try.f9) (.a) := HintOk.n1 (Q := True) (by kernel_rfl) trivial
theorem s_CommandOf.hE : EOk Try.prog (s_CommandOf.E) := EOk.of ttOk (⟨s_l00Source.fok, ⟨s_l00Src_command.fok, trivial⟩⟩)
theorem s_CommandOf.fok : FOk Try.prog 9 s_CommandOf.fi :=
  fokS (E := s_CommandOf.E) (wy := ⟨[[none, none, none, none, none]], [[]], []⟩) (h := (fun gs => .a)) (G := fun t g => s_CommandOf.F (fun y0 y1 y2 y3 y4 => g (y0, y1, y2, y3, y4)) t.1) (by kernel_rfl) s_CommandOf.hE Try.func9 (by kernel_rfl) rfl (Nat.le_refl _) (fun t => HintOk.n1 (by kernel_rfl) (s_CommandOf.hok s_CommandOf.hE)) (fun t g => s_CommandOf_nat g t.1) (fun t => by kernel_rfl)
/-! loop.example_g00220_impl.within -/
def i_within.F {R : Type} (kk : Bool → Option R) (n_ : Int) (low : Int) (high : Int) : Option R :=
  cond (decide (n_ ≥ low)) (kk (decide (n_ ≤ high))) (kk false)
theorem i_within.F_nat {R S : Type} (g : R → Option S) (kk : Bool → Option R) (n_ : Int) (low : Int) (high : Int) : i_within.F (fun y0 => (kk y0).bind g) n_ low high = (i_within.F kk n_ low high).bind g := by
  simp only [i_within.F, grd_bind, cnd_bind, bnd_bind, non_bind]
def i_within (n_ : Int) (low : Int) (high : Int) : Option Bool := i_within.F (fun y0 => some y0) n_ low high
theorem i_within_nat {S : Type} (g : Bool → Option S) (n_ : Int) (low : Int) (high : Int) : i_within.F (fun y0 => g y0) n_ low high = (i_within n_ low high).bind g := i_within.F_nat g (fun y0 => some y0) n_ low high
def i_within.E : Env := ⟨tt, lkF [], 15, 0, [], []⟩
def i_within.out : Bool → CRes := fun a => ⟨encL SV.enc [.one (.bool)] (a, ()), [encL SC.enc [] (), encL SC.enc [] (), encL SC.enc [] ()]⟩
def i_within.ps : List PS := [.val [none], .val [none], .val [none]]
def i_within.sA : List SA := [.v (.one (.int .i64)), .v (.one (.int .i64)), .v (.one (.int .i64))]
def i_within.fi : FI := FIs i_within.sA (Bool) (fun t => i_within t.1 t.2.1 t.2.2.1) i_within.out i_within.ps
theorem i_within.hok (hE : EOk Try.prog (i_within.E)) : HintOk Try.prog i_within.E (bodyOf Try.f79) (.a) := HintOk.n1 (Q := True) (by kernel_rfl) trivial
theorem i_within.hE : EOk Try.prog (i_within.E) := EOk.of ttOk (trivial)
theorem i_within.fok : FOk Try.prog 79 i_within.fi :=
  fokS (E := i_within.E) (wy := ⟨[[none]], [[], [], []], []⟩) (h := (fun gs => .a)) (G := fun t g => i_within.F (fun y0 => g y0) t.1 t.2.1 t.2.2.1) (by kernel_rfl) i_within.hE Try.func79 (by kernel_rfl) rfl (Nat.le_refl _) (fun t => HintOk.n1 (by kernel_rfl) (i_within.hok i_within.hE)) (fun t g => i_within_nat g t.1 t.2.1 t.2.2.1) (fun t => by kernel_rfl)
/-! loop.example_g00220_impl.isShort -/
def i_isShort.F {R : Type} (kk : Bool → Option R) (n_ : Int) : Option R :=
  (i_within n_ (0 : Int) (65535 : Int)).bind fun r =>
  kk r
theorem i_isShort.F_nat {R S : Type} (g : R → Option S) (kk : Bool → Option R) (n_ : Int) : i_isShort.F (fun y0 => (kk y0).bind g) n_ = (i_isShort.F kk n_).bind g := by
  simp only [i_isShort.F, grd_bind, cnd_bind, bnd_bind, non_bind]
def i_isShort (n_ : Int) : Option Bool := i_isShort.F (fun y0 => some y0) n_
theorem i_isShort_nat {S : Type} (g : Bool → Option S) (n_ : Int) : i_isShort.F (fun y0 => g y0) n_ = (i_isShort n_).bind g := i_isShort.F_nat g (fun y0 => some y0) n_
def i_isShort.E : Env := ⟨tt, lkF [(79, i_within.fi)], 5, 0, [], []⟩
def i_isShort.out : Bool → CRes := fun a => ⟨encL SV.enc [.one (.bool)] (a, ()), [encL SC.enc [] ()]⟩
def i_isShort.ps : List PS := [.val [none]]
def i_isShort.sA : List SA := [.v (.one (.int .i64))]
def i_isShort.fi : FI := FIs i_isShort.sA (Bool) (fun t => i_isShort t.1) i_isShort.out i_isShort.ps
theorem i_isShort.hok (hE : EOk Try.prog (i_isShort.E)) : HintOk Try.prog i_isShort.E (bodyOf Try.f57) (.a) := HintOk.n1 (Q := True) (by kernel_rfl) trivial
theorem i_isShort.hE : EOk Try.prog (i_isShort.E) := EOk.of ttOk (⟨i_within.fok, trivial⟩)
theorem i_isShort.fok : FOk Try.prog 57 i_isShort.fi :=
  fokS (E := i_isShort.E) (wy := ⟨[[none]], [[]], []⟩) (h := (fun gs => .a)) (G := fun t g => i_isShort.F (fun y0 => g y0) t.1) (by kernel_rfl) i_isShort.hE Try.func57 (by kernel_rfl) rfl (Nat.le_refl _) (fun t => HintOk.n1 (by kernel_rfl) (i_isShort.hok i_isShort.hE)) (fun t g => i_isShort_nat g t.1) (fun t => by kernel_rfl)
/-! loop.example_g00220_impl.isValue -/
def i_isValue.F {R : Type} (kk : Bool → Option R) (value : ByteArray) : Option R :=
  kk (decide ((ByteArray.size value : Int) ≤ (60 : Int)))
theorem i_isValue.F_nat {R S : Type} (g : R → Option S) (kk : Bool → Option R) (value : ByteArray) : i_isValue.F (fun y0 => (kk y0).bind g) value = (i_isValue.F kk value).bind g := by
  simp only [i_isValue.F, grd_bind, cnd_bind, bnd_bind, non_bind]
def i_isValue (value : ByteArray) : Option Bool := i_isValue.F (fun y0 => some y0) value
theorem i_isValue_nat {S : Type} (g : Bool → Option S) (value : ByteArray) : i_isValue.F (fun y0 => g y0) value = (i_isValue value).bind g := i_isValue.F_nat g (fun y0 => some y0) value
def i_isValue.E : Env := ⟨tt, lkF [], 6, 0, [], []⟩
def i_isValue.out : Bool → CRes := fun a => ⟨encL SV.enc [.one (.bool)] (a, ()), [encL SC.enc [] ()]⟩
def i_isValue.ps : List PS := [.val [none]]
def i_isValue.sA : List SA := [.v (.one (.str))]
def i_isValue.fi : FI := FIs i_isValue.sA (Bool) (fun t => i_isValue t.1) i_isValue.out i_isValue.ps
theorem i_isValue.hok (hE : EOk Try.prog (i_isValue.E)) : HintOk Try.prog i_isValue.E (bodyOf Try.f58) (.a) := HintOk.n1 (Q := True) (by kernel_rfl) trivial
theorem i_isValue.hE : EOk Try.prog (i_isValue.E) := EOk.of ttOk (trivial)
theorem i_isValue.fok : FOk Try.prog 58 i_isValue.fi :=
  fokS (E := i_isValue.E) (wy := ⟨[[none]], [[]], []⟩) (h := (fun gs => .a)) (G := fun t g => i_isValue.F (fun y0 => g y0) t.1) (by kernel_rfl) i_isValue.hE Try.func58 (by kernel_rfl) rfl (Nat.le_refl _) (fun t => HintOk.n1 (by kernel_rfl) (i_isValue.hok i_isValue.hE)) (fun t g => i_isValue_nat g t.1) (fun t => by kernel_rfl)
/-! loop.example_g00220_impl.isKey -/
def i_isKey.F {R : Type} (kk : Bool → Option R) (key : ByteArray) : Option R :=
  (i_within (ByteArray.size key : Int) (1 : Int) (24 : Int)).bind fun r =>
  kk r
theorem i_isKey.F_nat {R S : Type} (g : R → Option S) (kk : Bool → Option R) (key : ByteArray) : i_isKey.F (fun y0 => (kk y0).bind g) key = (i_isKey.F kk key).bind g := by
  simp only [i_isKey.F, grd_bind, cnd_bind, bnd_bind, non_bind]
def i_isKey (key : ByteArray) : Option Bool := i_isKey.F (fun y0 => some y0) key
theorem i_isKey_nat {S : Type} (g : Bool → Option S) (key : ByteArray) : i_isKey.F (fun y0 => g y0) key = (i_isKey key).bind g := i_isKey.F_nat g (fun y0 => some y0) key
def i_isKey.E : Env := ⟨tt, lkF [(79, i_within.fi)], 6, 0, [], []⟩
def i_isKey.out : Bool → CRes := fun a => ⟨encL SV.enc [.one (.bool)] (a, ()), [encL SC.enc [] ()]⟩
def i_isKey.ps : List PS := [.val [none]]
def i_isKey.sA : List SA := [.v (.one (.str))]
def i_isKey.fi : FI := FIs i_isKey.sA (Bool) (fun t => i_isKey t.1) i_isKey.out i_isKey.ps
theorem i_isKey.hok (hE : EOk Try.prog (i_isKey.E)) : HintOk Try.prog i_isKey.E (bodyOf Try.f59) (.a) := HintOk.n1 (Q := True) (by kernel_rfl) trivial
theorem i_isKey.hE : EOk Try.prog (i_isKey.E) := EOk.of ttOk (⟨i_within.fok, trivial⟩)
theorem i_isKey.fok : FOk Try.prog 59 i_isKey.fi :=
  fokS (E := i_isKey.E) (wy := ⟨[[none]], [[]], []⟩) (h := (fun gs => .a)) (G := fun t g => i_isKey.F (fun y0 => g y0) t.1) (by kernel_rfl) i_isKey.hE Try.func59 (by kernel_rfl) rfl (Nat.le_refl _) (fun t => HintOk.n1 (by kernel_rfl) (i_isKey.hok i_isKey.hE)) (fun t g => i_isKey_nat g t.1) (fun t => by kernel_rfl)
/-! loop.example_g00220_impl.CommandOK -/
def i_CommandOK.j1 {R : Type} (kkn : Int → Bool → Int → Int → Int → ByteArray → ByteArray → Option R) (i : Int) (c : Int) (c1 : Int) (c2 : Int) (c3 : ByteArray) (c4 : ByteArray) : Option R :=
  cond (i == (1 : Int)) (kkn i true c c1 c2 c3 c4) (kkn i (i == (2 : Int)) c c1 c2 c3 c4)
theorem i_CommandOK.j1_nat {R S : Type} (g : R → Option S) (kkn : Int → Bool → Int → Int → Int → ByteArray → ByteArray → Option R) (i : Int) (c : Int) (c1 : Int) (c2 : Int) (c3 : ByteArray) (c4 : ByteArray) : i_CommandOK.j1 (fun y0 y1 y2 y3 y4 y5 y6 => (kkn y0 y1 y2 y3 y4 y5 y6).bind g) i c c1 c2 c3 c4 = (i_CommandOK.j1 kkn i c c1 c2 c3 c4).bind g := by
  simp only [i_CommandOK.j1, grd_bind, cnd_bind, bnd_bind, non_bind]
def i_CommandOK.j2 {R : Type} (kkn : Bool → Int → Int → Int → ByteArray → ByteArray → Option R) (i : Int) (c : Int) (c1 : Int) (c2 : Int) (c3 : ByteArray) (c4 : ByteArray) : Option R :=
  cond (i == (4 : Int)) (kkn true c c1 c2 c3 c4) (kkn (i == (5 : Int)) c c1 c2 c3 c4)
theorem i_CommandOK.j2_nat {R S : Type} (g : R → Option S) (kkn : Bool → Int → Int → Int → ByteArray → ByteArray → Option R) (i : Int) (c : Int) (c1 : Int) (c2 : Int) (c3 : ByteArray) (c4 : ByteArray) : i_CommandOK.j2 (fun y0 y1 y2 y3 y4 y5 => (kkn y0 y1 y2 y3 y4 y5).bind g) i c c1 c2 c3 c4 = (i_CommandOK.j2 kkn i c c1 c2 c3 c4).bind g := by
  simp only [i_CommandOK.j2, grd_bind, cnd_bind, bnd_bind, non_bind]
def i_CommandOK.F {R : Type} (kk : Bool → Option R) (c_Kind : Int) (c_Session : Int) (c_Seq : Int) (c_Key : ByteArray) (c_Value : ByteArray) : Option R :=
  (i_isShort c_Session).bind fun r =>
  cond (!r) (kk false) (
    (i_isShort c_Seq).bind fun r1 =>
    cond (!r1) (kk false) (
      (i_isValue c_Value).bind fun r2 =>
      cond (!r2) (kk false) (
        i_CommandOK.j1 (fun i b c c1 c2 c3 c4 =>
          cond (b) (
            (i_isKey c3).bind fun r3 =>
            kk r3) (
            cond (i == (3 : Int)) (
              (i_isKey c3).bind fun r4 =>
              cond (r4) (kk (sEq c4 ByteArray.empty)) (kk false)) (
              i_CommandOK.j2 (fun b1 c5 c6 c7 c8 c9 =>
                cond (b1) (
                  cond (sEq c8 ByteArray.empty) (cond (sEq c9 ByteArray.empty) (kk (c7 == (0 : Int))) (kk false)) (kk false)) (kk false)) i c c1 c2 c3 c4))) c_Kind c_Kind c_Session c_Seq c_Key c_Value)))
theorem i_CommandOK.F_nat {R S : Type} (g : R → Option S) (kk : Bool → Option R) (c_Kind : Int) (c_Session : Int) (c_Seq : Int) (c_Key : ByteArray) (c_Value : ByteArray) : i_CommandOK.F (fun y0 => (kk y0).bind g) c_Kind c_Session c_Seq c_Key c_Value = (i_CommandOK.F kk c_Kind c_Session c_Seq c_Key c_Value).bind g := by
  simp only [i_CommandOK.F, grd_bind, cnd_bind, bnd_bind, non_bind, ← i_CommandOK.j1_nat, ← i_CommandOK.j2_nat]
def i_CommandOK (c_Kind : Int) (c_Session : Int) (c_Seq : Int) (c_Key : ByteArray) (c_Value : ByteArray) : Option Bool := i_CommandOK.F (fun y0 => some y0) c_Kind c_Session c_Seq c_Key c_Value
theorem i_CommandOK_nat {S : Type} (g : Bool → Option S) (c_Kind : Int) (c_Session : Int) (c_Seq : Int) (c_Key : ByteArray) (c_Value : ByteArray) : i_CommandOK.F (fun y0 => g y0) c_Kind c_Session c_Seq c_Key c_Value = (i_CommandOK c_Kind c_Session c_Seq c_Key c_Value).bind g := i_CommandOK.F_nat g (fun y0 => some y0) c_Kind c_Session c_Seq c_Key c_Value
def i_CommandOK.E : Env := ⟨tt, lkF [(57, i_isShort.fi), (58, i_isValue.fi), (59, i_isKey.fi)], 53, 0, [], []⟩
def i_CommandOK.sh1 : SK := ⟨[.v (.one (.bptr 0 0)), .v (.one (.int .i64))], [.box [.int .i64, .int .i64, .int .i64, .str, .str]]⟩
def i_CommandOK.sh1n : SK := ⟨[.v (.one (.bptr 0 0)), .v (.one (.int .i64)), .v (.one (.bool))], [.box [.int .i64, .int .i64, .int .i64, .str, .str]]⟩
def i_CommandOK.ko1 : Ex → List CastAt × List Nat
  | .nrm => ([], [1, 20, 21])
  | .ret => ([], [])
  | .ext i => ([], [])
def i_CommandOK.G1 (R : Type) (t : i_CommandOK.sh1.T) (K : Ex → Kp → Option R) : Option R := i_CommandOK.j1 (fun y0 y1 y2 y3 y4 y5 y6 => K .nrm (SK.enc i_CommandOK.sh1n (((), y0, y1, ()), ((y2, y3, y4, y5, y6, ()), ())))) t.1.2.1 t.2.1.1 t.2.1.2.1 t.2.1.2.2.1 t.2.1.2.2.2.1 t.2.1.2.2.2.2.1
def i_CommandOK.S1 : Sum := ⟨([], [1, 20]), sumF i_CommandOK.sh1 (i_CommandOK.G1), i_CommandOK.ko1⟩
theorem i_CommandOK.ok1 (hE : EOk Try.prog (i_CommandOK.E)) : SumOk Try.prog i_CommandOK.E (cL (cB (cR (cL (cR (cR (bodyOf Try.f17))))))) (i_CommandOK.S1) := by
  have hh : HintOk Try.prog i_CommandOK.E (cL (cB (cR (cL (cR (cR (bodyOf Try.f17))))))) (.a) := HintOk.n1 (Q := True) (by kernel_rfl) trivial
  exact sumS (kin := ([], [1, 20])) (kout := i_CommandOK.ko1) (sh := i_CommandOK.sh1) (F := i_CommandOK.G1) (ops_ok (hE.gv _)) (by kernel_rfl) hh (fun R t K => by kernel_rfl)
def i_CommandOK.sh2 : SK := ⟨[.v (.one (.bptr 0 0)), .v (.one (.int .i64))], [.box [.int .i64, .int .i64, .int .i64, .str, .str]]⟩
def i_CommandOK.sh2n : SK := ⟨[.v (.one (.bptr 0 0)), .v (.one (.bool))], [.box [.int .i64, .int .i64, .int .i64, .str, .str]]⟩
def i_CommandOK.ko2 : Ex → List CastAt × List Nat
  | .nrm => ([], [1, 37])
  | .ret => ([], [])
  | .ext i => ([], [])
def i_CommandOK.G2 (R : Type) (t : i_CommandOK.sh2.T) (K : Ex → Kp → Option R) : Option R := i_CommandOK.j2 (fun y0 y1 y2 y3 y4 y5 => K .nrm (SK.enc i_CommandOK.sh2n (((), y0, ()), ((y1, y2, y3, y4, y5, ()), ())))) t.1.2.1 t.2.1.1 t.2.1.2.1 t.2.1.2.2.1 t.2.1.2.2.2.1 t.2.1.2.2.2.2.1
def i_CommandOK.S2 : Sum := ⟨([], [1, 20]), sumF i_CommandOK.sh2 (i_CommandOK.G2), i_CommandOK.ko2⟩
theorem i_CommandOK.ok2 (hE : EOk Try.prog (i_CommandOK.E)) : SumOk Try.prog i_CommandOK.E (cL (cR (cR (cR (cR (cB (cR (cL (cR (cR (bodyOf Try.f17))))))))))) (i_CommandOK.S2) := by
  have hh : HintOk Try.prog i_CommandOK.E (cL (cR (cR (cR (cR (cB (cR (cL (cR (cR (bodyOf Try.f17))))))))))) (.a) := HintOk.n1 (Q := True) (by kernel_rfl) trivial
  exact sumS (kin := ([], [1, 20])) (kout := i_CommandOK.ko2) (sh := i_CommandOK.sh2) (F := i_CommandOK.G2) (ops_ok (hE.gv _)) (by kernel_rfl) hh (fun R t K => by kernel_rfl)
def i_CommandOK.out : Bool → CRes := fun a => ⟨encL SV.enc [.one (.bool)] (a, ()), [encL SC.enc [] ()]⟩
def i_CommandOK.ps : List PS := [.val [none, none, none, none, none]]
def i_CommandOK.sA : List SA := [.v (.agg [.int .i64, .int .i64, .int .i64, .str, .str])]
def i_CommandOK.fi : FI := FIs i_CommandOK.sA (Bool) (fun t => i_CommandOK t.1.1 t.1.2.1 t.1.2.2.1 t.1.2.2.2.1 t.1.2.2.2.2.1) i_CommandOK.out i_CommandOK.ps
theorem i_CommandOK.hok (hE : EOk Try.prog (i_CommandOK.E)) : HintOk Try.prog i_CommandOK.E (bodyOf Try.f17) (.n (.a) (.n (.a) (.n (.n (.a) (.b (.n (.s (i_CommandOK.S1)) (.n (.a) (.n (.a) (.n (.a) (.n (.s (i_CommandOK.S2)) (.a)))))))) (.a)))) := HintOk.n1 (Q := (True) ∧ ((True) ∧ (((True) ∧ ((SumOk Try.prog i_CommandOK.E (cL (cB (cR (cL (cR (cR (bodyOf Try.f17))))))) (i_CommandOK.S1)) ∧ ((True) ∧ ((True) ∧ ((True) ∧ ((SumOk Try.prog i_CommandOK.E (cL (cR (cR (cR (cR (cB (cR (cL (cR (cR (bodyOf Try.f17))))))))))) (i_CommandOK.S2)) ∧ (True))))))) ∧ (True)))) (by kernel_rfl) ⟨trivial, ⟨trivial, ⟨⟨trivial, ⟨(i_CommandOK.ok1 hE), ⟨trivial, ⟨trivial, ⟨trivial, ⟨(i_CommandOK.ok2 hE), trivial⟩⟩⟩⟩⟩⟩, trivial⟩⟩⟩
theorem i_CommandOK.hE : EOk Try.prog (i_CommandOK.E) := EOk.of ttOk (⟨i_isShort.fok, ⟨i_isValue.fok, ⟨i_isKey.fok, trivial⟩⟩⟩)
theorem i_CommandOK.fok : FOk Try.prog 17 i_CommandOK.fi :=
  fokS (E := i_CommandOK.E) (wy := ⟨[[none]], [[]], []⟩) (h := (fun gs => .n (.a) (.n (.a) (.n (.n (.a) (.b (.n (.s (i_CommandOK.S1)) (.n (.a) (.n (.a) (.n (.a) (.n (.s (i_CommandOK.S2)) (.a)))))))) (.a))))) (G := fun t g => i_CommandOK.F (fun y0 => g y0) t.1.1 t.1.2.1 t.1.2.2.1 t.1.2.2.2.1 t.1.2.2.2.2.1) (by kernel_rfl) i_CommandOK.hE Try.func17 (by kernel_rfl) rfl (Nat.le_refl _) (fun t => HintOk.n1 (by kernel_rfl) (i_CommandOK.hok i_CommandOK.hE)) (fun t g => i_CommandOK_nat g t.1.1 t.1.2.1 t.1.2.2.1 t.1.2.2.2.1 t.1.2.2.2.2.1) (fun t => by kernel_rfl)
/-! loop.example_g00220_impl.number -/
def i_number.l1 {R : Type} (kke0 : List Int → Option R) : Nat → Int → Int → List Int → Option R
  | 0, _, _, _ => none
  | n + 1, n_, i, out =>
    cond (decide (i ≥ (0 : Int))) (
      grd (gIx i (List.length out)) <|
      grd (gSh (8 : Int)) <|
      i_number.l1 kke0 n (iShr .i64 n_ (8 : Int)) (IntKind.wrap .i64 (i - (1 : Int))) (setE (.int .u8 : Kd) out (Int.toNat i) (IntKind.wrap .u8 n_))) (kke0 out)
theorem i_number.l1_nat {R S : Type} (g : R → Option S) (kke0 : List Int → Option R) : ∀ (n : Nat) (n_ : Int) (i : Int) (out : List Int), i_number.l1 (fun y0 => (kke0 y0).bind g) n n_ i out = (i_number.l1 kke0 n n_ i out).bind g := by
  intro n
  induction n with
  | zero => intros; rfl
  | succ n ih => intros; simp only [i_number.l1, grd_bind, cnd_bind, bnd_bind, non_bind, ih]
def i_number.F {R : Type} (kk : ByteArray → Option R) (n_ : Int) (many : Int) : Option R :=
  grd (gMk many many 1) <|
  i_number.l1 (fun out => kk (strL out)) fuel n_ (IntKind.wrap .i64 (many - (1 : Int))) (List.replicate (Int.toNat many) (0 : Int))
theorem i_number.F_nat {R S : Type} (g : R → Option S) (kk : ByteArray → Option R) (n_ : Int) (many : Int) : i_number.F (fun y0 => (kk y0).bind g) n_ many = (i_number.F kk n_ many).bind g := by
  simp only [i_number.F, grd_bind, cnd_bind, bnd_bind, non_bind, ← i_number.l1_nat]
def i_number (n_ : Int) (many : Int) : Option ByteArray := i_number.F (fun y0 => some y0) n_ many
theorem i_number_nat {S : Type} (g : ByteArray → Option S) (n_ : Int) (many : Int) : i_number.F (fun y0 => g y0) n_ many = (i_number n_ many).bind g := i_number.F_nat g (fun y0 => some y0) n_ many
def i_number.E : Env := ⟨tt, lkF [], 24, 0, [], []⟩
def i_number.sh1 : SK := ⟨[.v (.one (.int .i64)), .v (.one (.slo 0)), .v (.one (.int .i64))], [.arr (.int .u8) [] true]⟩
def i_number.sh1e0 : SK := ⟨[.v (.one (.slo 0))], [.arr (.int .u8) [] true]⟩
def i_number.ko1 : Ex → List CastAt × List Nat
  | .nrm => ([], [])
  | .ret => ([], [])
  | .ext i => cond (Nat.beq i 0) ([], [5]) ([], [])
def i_number.G1 (n : Nat) (R : Type) (t : i_number.sh1.T) (K : Ex → Kp → Option R) : Option R := i_number.l1 (fun y0 => K (.ext 0) (SK.enc i_number.sh1e0 (((), ()), (y0, ())))) n t.1.1 t.1.2.2.1 t.2.1
def i_number.S1 : Sum := ⟨([], [0, 5, 6]), sumF i_number.sh1 (i_number.G1 fuel), i_number.ko1⟩
theorem i_number.ok1 (hE : EOk Try.prog (i_number.E)) : SumOk Try.prog i_number.E (cB (cR (cL (cR (cR (bodyOf Try.f95)))))) (i_number.S1) := by
  have hh : HintOk Try.prog i_number.E (cB (cB (cR (cL (cR (cR (bodyOf Try.f95))))))) (.a) := HintOk.n1 (Q := True) (by kernel_rfl) trivial
  have h := loopS (kin := ([], [0, 5, 6])) (kout := i_number.ko1) (sh := i_number.sh1) (F := i_number.G1) (ops_ok (hE.gv _)) (by kernel_rfl) hh (fun _ _ _ => rfl) (fun n R t K => by kernel_rfl) fuel
  exact HintOk.n1 (c := (cB (cR (cL (cR (cR (bodyOf Try.f95))))))) (h := .s (i_number.S1)) (P := Try.prog) (E := i_number.E) (by kernel_rfl) h
def i_number.out : ByteArray → CRes := fun a => ⟨encL SV.enc [.one (.str)] (a, ()), [encL SC.enc [] (), encL SC.enc [] ()]⟩
def i_number.ps : List PS := [.val [none], .val [none]]
def i_number.sA : List SA := [.v (.one (.int .i64)), .v (.one (.int .i64))]
def i_number.fi : FI := FIs i_number.sA (ByteArray) (fun t => i_number t.1 t.2.1) i_number.out i_number.ps
theorem i_number.hok (hE : EOk Try.prog (i_number.E)) : HintOk Try.prog i_number.E (bodyOf Try.f95) (.n (.a) (.n (.a) (.n (.n (.a) (.b (.s (i_number.S1)))) (.a)))) := HintOk.n1 (Q := (True) ∧ ((True) ∧ (((True) ∧ (SumOk Try.prog i_number.E (cB (cR (cL (cR (cR (bodyOf Try.f95)))))) (i_number.S1))) ∧ (True)))) (by kernel_rfl) ⟨trivial, ⟨trivial, ⟨⟨trivial, (i_number.ok1 hE)⟩, trivial⟩⟩⟩
theorem i_number.hE : EOk Try.prog (i_number.E) := EOk.of ttOk (trivial)
theorem i_number.fok : FOk Try.prog 95 i_number.fi :=
  fokS (E := i_number.E) (wy := ⟨[[none]], [[], []], []⟩) (h := (fun gs => .n (.a) (.n (.a) (.n (.n (.a) (.b (.s (i_number.S1)))) (.a))))) (G := fun t g => i_number.F (fun y0 => g y0) t.1 t.2.1) (by kernel_rfl) i_number.hE Try.func95 (by kernel_rfl) rfl (Nat.le_refl _) (fun t => HintOk.n1 (by kernel_rfl) (i_number.hok i_number.hE)) (fun t g => i_number_nat g t.1 t.2.1) (fun t => by kernel_rfl)
/-! loop.example_g00220_impl.counted -/
def i_counted.F {R : Type} (kk : ByteArray → Option R) (t_ : ByteArray) : Option R :=
  (i_number (ByteArray.size t_ : Int) (1 : Int)).bind fun r =>
  grd (gCat r t_) <|
  kk (r ++ t_)
theorem i_counted.F_nat {R S : Type} (g : R → Option S) (kk : ByteArray → Option R) (t_ : ByteArray) : i_counted.F (fun y0 => (kk y0).bind g) t_ = (i_counted.F kk t_).bind g := by
  simp only [i_counted.F, grd_bind, cnd_bind, bnd_bind, non_bind]
def i_counted (t_ : ByteArray) : Option ByteArray := i_counted.F (fun y0 => some y0) t_
theorem i_counted_nat {S : Type} (g : ByteArray → Option S) (t_ : ByteArray) : i_counted.F (fun y0 => g y0) t_ = (i_counted t_).bind g := i_counted.F_nat g (fun y0 => some y0) t_
def i_counted.E : Env := ⟨tt, lkF [(95, i_number.fi)], 8, 0, [], []⟩
def i_counted.out : ByteArray → CRes := fun a => ⟨encL SV.enc [.one (.str)] (a, ()), [encL SC.enc [] ()]⟩
def i_counted.ps : List PS := [.val [none]]
def i_counted.sA : List SA := [.v (.one (.str))]
def i_counted.fi : FI := FIs i_counted.sA (ByteArray) (fun t => i_counted t.1) i_counted.out i_counted.ps
theorem i_counted.hok (hE : EOk Try.prog (i_counted.E)) : HintOk Try.prog i_counted.E (bodyOf Try.f96) (.a) := HintOk.n1 (Q := True) (by kernel_rfl) trivial
theorem i_counted.hE : EOk Try.prog (i_counted.E) := EOk.of ttOk (⟨i_number.fok, trivial⟩)
theorem i_counted.fok : FOk Try.prog 96 i_counted.fi :=
  fokS (E := i_counted.E) (wy := ⟨[[none]], [[]], []⟩) (h := (fun gs => .a)) (G := fun t g => i_counted.F (fun y0 => g y0) t.1) (by kernel_rfl) i_counted.hE Try.func96 (by kernel_rfl) rfl (Nat.le_refl _) (fun t => HintOk.n1 (by kernel_rfl) (i_counted.hok i_counted.hE)) (fun t g => i_counted_nat g t.1) (fun t => by kernel_rfl)
/-! _loop.example_g00220_impl.Command_.bytes -/
def i_Command_bytes.F {R : Type} (kk : ByteArray → Option R) (c_Kind : Int) (c_Session : Int) (c_Seq : Int) (c_Key : ByteArray) (c_Value : ByteArray) : Option R :=
  (i_number c_Kind (1 : Int)).bind fun r =>
  (i_number c_Session (2 : Int)).bind fun r1 =>
  grd (gCat r r1) <|
  (i_number c_Seq (2 : Int)).bind fun r2 =>
  grd (gCat (r ++ r1) r2) <|
  (i_counted c_Key).bind fun r3 =>
  grd (gCat ((r ++ r1) ++ r2) r3) <|
  (i_counted c_Value).bind fun r4 =>
  grd (gCat (((r ++ r1) ++ r2) ++ r3) r4) <|
  kk ((((r ++ r1) ++ r2) ++ r3) ++ r4)
theorem i_Command_bytes.F_nat {R S : Type} (g : R → Option S) (kk : ByteArray → Option R) (c_Kind : Int) (c_Session : Int) (c_Seq : Int) (c_Key : ByteArray) (c_Value : ByteArray) : i_Command_bytes.F (fun y0 => (kk y0).bind g) c_Kind c_Session c_Seq c_Key c_Value = (i_Command_bytes.F kk c_Kind c_Session c_Seq c_Key c_Value).bind g := by
  simp only [i_Command_bytes.F, grd_bind, cnd_bind, bnd_bind, non_bind]
def i_Command_bytes (c_Kind : Int) (c_Session : Int) (c_Seq : Int) (c_Key : ByteArray) (c_Value : ByteArray) : Option ByteArray := i_Command_bytes.F (fun y0 => some y0) c_Kind c_Session c_Seq c_Key c_Value
theorem i_Command_bytes_nat {S : Type} (g : ByteArray → Option S) (c_Kind : Int) (c_Session : Int) (c_Seq : Int) (c_Key : ByteArray) (c_Value : ByteArray) : i_Command_bytes.F (fun y0 => g y0) c_Kind c_Session c_Seq c_Key c_Value = (i_Command_bytes c_Kind c_Session c_Seq c_Key c_Value).bind g := i_Command_bytes.F_nat g (fun y0 => some y0) c_Kind c_Session c_Seq c_Key c_Value
def i_Command_bytes.E : Env := ⟨tt, lkF [(95, i_number.fi), (96, i_counted.fi)], 22, 0, [], []⟩
def i_Command_bytes.out : ByteArray → CRes := fun a => ⟨encL SV.enc [.one (.str)] (a, ()), [encL SC.enc [] ()]⟩
def i_Command_bytes.ps : List PS := [.val [none, none, none, none, none]]
def i_Command_bytes.sA : List SA := [.v (.agg [.int .i64, .int .i64, .int .i64, .str, .str])]
def i_Command_bytes.fi : FI := FIs i_Command_bytes.sA (ByteArray) (fun t => i_Command_bytes t.1.1 t.1.2.1 t.1.2.2.1 t.1.2.2.2.1 t.1.2.2.2.2.1) i_Command_bytes.out i_Command_bytes.ps
theorem i_Command_bytes.hok (hE : EOk Try.prog (i_Command_bytes.E)) : HintOk Try.prog i_Command_bytes.E (bodyOf Try.f47) (.a) := HintOk.n1 (Q := True) (by kernel_rfl) trivial
theorem i_Command_bytes.hE : EOk Try.prog (i_Command_bytes.E) := EOk.of ttOk (⟨i_number.fok, ⟨i_counted.fok, trivial⟩⟩)
theorem i_Command_bytes.fok : FOk Try.prog 47 i_Command_bytes.fi :=
  fokS (E := i_Command_bytes.E) (wy := ⟨[[none]], [[]], []⟩) (h := (fun gs => .a)) (G := fun t g => i_Command_bytes.F (fun y0 => g y0) t.1.1 t.1.2.1 t.1.2.2.1 t.1.2.2.2.1 t.1.2.2.2.2.1) (by kernel_rfl) i_Command_bytes.hE Try.func47 (by kernel_rfl) rfl (Nat.le_refl _) (fun t => HintOk.n1 (by kernel_rfl) (i_Command_bytes.hok i_Command_bytes.hE)) (fun t g => i_Command_bytes_nat g t.1.1 t.1.2.1 t.1.2.2.1 t.1.2.2.2.1 t.1.2.2.2.2.1) (fun t => by kernel_rfl)
/-! loop.example_g00220_impl.CommandBytes -/
def i_CommandBytes.F {R : Type} (kk : List Int → Int → Option R) (c_Kind : Int) (c_Session : Int) (c_Seq : Int) (c_Key : ByteArray) (c_Value : ByteArray) : Option R :=
  (i_CommandOK c_Kind c_Session c_Seq c_Key c_Value).bind fun r =>
  cond (!r) (kk [] (1 : Int)) (
    (i_Command_bytes c_Kind c_Session c_Seq c_Key c_Value).bind fun r1 =>
    kk (bytesL r1) (0 : Int))
theorem i_CommandBytes.F_nat {R S : Type} (g : R → Option S) (kk : List Int → Int → Option R) (c_Kind : Int) (c_Session : Int) (c_Seq : Int) (c_Key : ByteArray) (c_Value : ByteArray) : i_CommandBytes.F (fun y0 y1 => (kk y0 y1).bind g) c_Kind c_Session c_Seq c_Key c_Value = (i_CommandBytes.F kk c_Kind c_Session c_Seq c_Key c_Value).bind g := by
  simp only [i_CommandBytes.F, grd_bind, cnd_bind, bnd_bind, non_bind]
def i_CommandBytes (c_Kind : Int) (c_Session : Int) (c_Seq : Int) (c_Key : ByteArray) (c_Value : ByteArray) : Option (List Int × Int) := i_CommandBytes.F (fun y0 y1 => some (y0, y1)) c_Kind c_Session c_Seq c_Key c_Value
theorem i_CommandBytes_nat {S : Type} (g : (List Int × Int) → Option S) (c_Kind : Int) (c_Session : Int) (c_Seq : Int) (c_Key : ByteArray) (c_Value : ByteArray) : i_CommandBytes.F (fun y0 y1 => g (y0, y1)) c_Kind c_Session c_Seq c_Key c_Value = (i_CommandBytes c_Kind c_Session c_Seq c_Key c_Value).bind g := i_CommandBytes.F_nat g (fun y0 y1 => some (y0, y1)) c_Kind c_Session c_Seq c_Key c_Value
def i_CommandBytes.E : Env := ⟨tt, lkF [(17, i_CommandOK.fi), (47, i_Command_bytes.fi)], 10, 0, [], []⟩
def i_CommandBytes.out : (List Int × Int) → CRes := fun a => ⟨encL SV.enc [.one (.own [] (.int .u8) true), .one (.int .i64)] (a.1, a.2, ()), [encL SC.enc [] ()]⟩
def i_CommandBytes.ps : List PS := [.val [none, none, none, none, none]]
def i_CommandBytes.sA : List SA := [.v (.agg [.int .i64, .int .i64, .int .i64, .str, .str])]
def i_CommandBytes.fi : FI := FIs i_CommandBytes.sA (List Int × Int) (fun t => i_CommandBytes t.1.1 t.1.2.1 t.1.2.2.1 t.1.2.2.2.1 t.1.2.2.2.2.1) i_CommandBytes.out i_CommandBytes.ps
theorem i_CommandBytes.hok (hE : EOk Try.prog (i_CommandBytes.E)) : HintOk Try.prog i_CommandBytes.E (bodyOf Try.f10) (.a) := HintOk.n1 (Q := True) (by kernel_rfl) trivial
theorem i_CommandBytes.hE : EOk Try.prog (i_CommandBytes.E) := EOk.of ttOk (⟨i_CommandOK.fok, ⟨i_Command_bytes.fok, trivial⟩⟩)
theorem i_CommandBytes.fok : FOk Try.prog 10 i_CommandBytes.fi :=
  fokS (E := i_CommandBytes.E) (wy := ⟨[[some ((.int .u8), true)], [none]], [[]], []⟩) (h := (fun gs => .a)) (G := fun t g => i_CommandBytes.F (fun y0 y1 => g (y0, y1)) t.1.1 t.1.2.1 t.1.2.2.1 t.1.2.2.2.1 t.1.2.2.2.2.1) (by kernel_rfl) i_CommandBytes.hE Try.func10 (by kernel_rfl) rfl (Nat.le_refl _) (fun t => HintOk.n1 (by kernel_rfl) (i_CommandBytes.hok i_CommandBytes.hE)) (fun t g => i_CommandBytes_nat g t.1.1 t.1.2.1 t.1.2.2.1 t.1.2.2.2.1 t.1.2.2.2.2.1) (fun t => by kernel_rfl)
/-! loop.example_g00220_spec.l01In -/
def s_l01In.F {R : Type} (kk : Bool → Option R) (n_ : Int) (low : Int) (high : Int) : Option R :=
  cond (decide (n_ ≥ low)) (kk (decide (n_ ≤ high))) (kk false)
theorem s_l01In.F_nat {R S : Type} (g : R → Option S) (kk : Bool → Option R) (n_ : Int) (low : Int) (high : Int) : s_l01In.F (fun y0 => (kk y0).bind g) n_ low high = (s_l01In.F kk n_ low high).bind g := by
  simp only [s_l01In.F, grd_bind, cnd_bind, bnd_bind, non_bind]
def s_l01In (n_ : Int) (low : Int) (high : Int) : Option Bool := s_l01In.F (fun y0 => some y0) n_ low high
theorem s_l01In_nat {S : Type} (g : Bool → Option S) (n_ : Int) (low : Int) (high : Int) : s_l01In.F (fun y0 => g y0) n_ low high = (s_l01In n_ low high).bind g := s_l01In.F_nat g (fun y0 => some y0) n_ low high
def s_l01In.E : Env := ⟨tt, lkF [], 15, 0, [], []⟩
def s_l01In.out : Bool → CRes := fun a => ⟨encL SV.enc [.one (.bool)] (a, ()), [encL SC.enc [] (), encL SC.enc [] (), encL SC.enc [] ()]⟩
def s_l01In.ps : List PS := [.val [none], .val [none], .val [none]]
def s_l01In.sA : List SA := [.v (.one (.int .i64)), .v (.one (.int .i64)), .v (.one (.int .i64))]
def s_l01In.fi : FI := FIs s_l01In.sA (Bool) (fun t => s_l01In t.1 t.2.1 t.2.2.1) s_l01In.out s_l01In.ps
theorem s_l01In.hok (hE : EOk Try.prog (s_l01In.E)) : HintOk Try.prog s_l01In.E (bodyOf Try.f69) (.a) := HintOk.n1 (Q := True) (by kernel_rfl) trivial
theorem s_l01In.hE : EOk Try.prog (s_l01In.E) := EOk.of ttOk (trivial)
theorem s_l01In.fok : FOk Try.prog 69 s_l01In.fi :=
  fokS (E := s_l01In.E) (wy := ⟨[[none]], [[], [], []], []⟩) (h := (fun gs => .a)) (G := fun t g => s_l01In.F (fun y0 => g y0) t.1 t.2.1 t.2.2.1) (by kernel_rfl) s_l01In.hE Try.func69 (by kernel_rfl) rfl (Nat.le_refl _) (fun t => HintOk.n1 (by kernel_rfl) (s_l01In.hok s_l01In.hE)) (fun t g => s_l01In_nat g t.1 t.2.1 t.2.2.1) (fun t => by kernel_rfl)
/-! loop.example_g00220_spec.l02Key -/
def s_l02Key.F {R : Type} (kk : Bool → Option R) (k_ : ByteArray) : Option R :=
  cond (decide ((ByteArray.size k_ : Int) ≥ (1 : Int))) (kk (decide ((ByteArray.size k_ : Int) ≤ (24 : Int)))) (kk false)
theorem s_l02Key.F_nat {R S : Type} (g : R → Option S) (kk : Bool → Option R) (k_ : ByteArray) : s_l02Key.F (fun y0 => (kk y0).bind g) k_ = (s_l02Key.F kk k_).bind g := by
  simp only [s_l02Key.F, grd_bind, cnd_bind, bnd_bind, non_bind]
def s_l02Key (k_ : ByteArray) : Option Bool := s_l02Key.F (fun y0 => some y0) k_
theorem s_l02Key_nat {S : Type} (g : Bool → Option S) (k_ : ByteArray) : s_l02Key.F (fun y0 => g y0) k_ = (s_l02Key k_).bind g := s_l02Key.F_nat g (fun y0 => some y0) k_
def s_l02Key.E : Env := ⟨tt, lkF [], 11, 0, [], []⟩
def s_l02Key.out : Bool → CRes := fun a => ⟨encL SV.enc [.one (.bool)] (a, ()), [encL SC.enc [] ()]⟩
def s_l02Key.ps : List PS := [.val [none]]
def s_l02Key.sA : List SA := [.v (.one (.str))]
def s_l02Key.fi : FI := FIs s_l02Key.sA (Bool) (fun t => s_l02Key t.1) s_l02Key.out s_l02Key.ps
theorem s_l02Key.hok (hE : EOk Try.prog (s_l02Key.E)) : HintOk Try.prog s_l02Key.E (bodyOf Try.f97) (.a) := HintOk.n1 (Q := True) (by kernel_rfl) trivial
theorem s_l02Key.hE : EOk Try.prog (s_l02Key.E) := EOk.of ttOk (trivial)
theorem s_l02Key.fok : FOk Try.prog 97 s_l02Key.fi :=
  fokS (E := s_l02Key.E) (wy := ⟨[[none]], [[]], []⟩) (h := (fun gs => .a)) (G := fun t g => s_l02Key.F (fun y0 => g y0) t.1) (by kernel_rfl) s_l02Key.hE Try.func97 (by kernel_rfl) rfl (Nat.le_refl _) (fun t => HintOk.n1 (by kernel_rfl) (s_l02Key.hok s_l02Key.hE)) (fun t g => s_l02Key_nat g t.1) (fun t => by kernel_rfl)
/-! loop.example_g00220_spec.CommandOK -/
def s_CommandOK.j1 {R : Type} (kkn : Int → Bool → Int → Int → Int → ByteArray → ByteArray → Option R) (i : Int) (c : Int) (c1 : Int) (c2 : Int) (c3 : ByteArray) (c4 : ByteArray) : Option R :=
  cond (i == (1 : Int)) (kkn i true c c1 c2 c3 c4) (kkn i (i == (2 : Int)) c c1 c2 c3 c4)
theorem s_CommandOK.j1_nat {R S : Type} (g : R → Option S) (kkn : Int → Bool → Int → Int → Int → ByteArray → ByteArray → Option R) (i : Int) (c : Int) (c1 : Int) (c2 : Int) (c3 : ByteArray) (c4 : ByteArray) : s_CommandOK.j1 (fun y0 y1 y2 y3 y4 y5 y6 => (kkn y0 y1 y2 y3 y4 y5 y6).bind g) i c c1 c2 c3 c4 = (s_CommandOK.j1 kkn i c c1 c2 c3 c4).bind g := by
  simp only [s_CommandOK.j1, grd_bind, cnd_bind, bnd_bind, non_bind]
def s_CommandOK.j2 {R : Type} (kkn : Bool → Int → Int → Int → ByteArray → ByteArray → Option R) (i : Int) (c : Int) (c1 : Int) (c2 : Int) (c3 : ByteArray) (c4 : ByteArray) : Option R :=
  cond (i == (4 : Int)) (kkn true c c1 c2 c3 c4) (kkn (i == (5 : Int)) c c1 c2 c3 c4)
theorem s_CommandOK.j2_nat {R S : Type} (g : R → Option S) (kkn : Bool → Int → Int → Int → ByteArray → ByteArray → Option R) (i : Int) (c : Int) (c1 : Int) (c2 : Int) (c3 : ByteArray) (c4 : ByteArray) : s_CommandOK.j2 (fun y0 y1 y2 y3 y4 y5 => (kkn y0 y1 y2 y3 y4 y5).bind g) i c c1 c2 c3 c4 = (s_CommandOK.j2 kkn i c c1 c2 c3 c4).bind g := by
  simp only [s_CommandOK.j2, grd_bind, cnd_bind, bnd_bind, non_bind]
def s_CommandOK.F {R : Type} (kk : Bool → Option R) (c_Kind : Int) (c_Session : Int) (c_Seq : Int) (c_Key : ByteArray) (c_Value : ByteArray) : Option R :=
  (s_l01In c_Session (0 : Int) (65535 : Int)).bind fun r =>
  cond (!r) (kk false) (
    (s_l01In c_Seq (0 : Int) (65535 : Int)).bind fun r1 =>
    cond (!r1) (kk false) (
      cond (decide ((ByteArray.size c_Value : Int) > (60 : Int))) (kk false) (
        s_CommandOK.j1 (fun i b c c1 c2 c3 c4 =>
          cond (b) (
            (s_l02Key c3).bind fun r2 =>
            kk r2) (
            cond (i == (3 : Int)) (
              (s_l02Key c3).bind fun r3 =>
              cond (r3) (kk (sEq c4 ByteArray.empty)) (kk false)) (
              s_CommandOK.j2 (fun b1 c5 c6 c7 c8 c9 =>
                cond (b1) (
                  cond (sEq c8 ByteArray.empty) (cond (sEq c9 ByteArray.empty) (kk (c7 == (0 : Int))) (kk false)) (kk false)) (kk false)) i c c1 c2 c3 c4))) c_Kind c_Kind c_Session c_Seq c_Key c_Value)))
theorem s_CommandOK.F_nat {R S : Type} (g : R → Option S) (kk : Bool → Option R) (c_Kind : Int) (c_Session : Int) (c_Seq : Int) (c_Key : ByteArray) (c_Value : ByteArray) : s_CommandOK.F (fun y0 => (kk y0).bind g) c_Kind c_Session c_Seq c_Key c_Value = (s_CommandOK.F kk c_Kind c_Session c_Seq c_Key c_Value).bind g := by
  simp only [s_CommandOK.F, grd_bind, cnd_bind, bnd_bind, non_bind, ← s_CommandOK.j1_nat, ← s_CommandOK.j2_nat]
def s_CommandOK (c_Kind : Int) (c_Session : Int) (c_Seq : Int) (c_Key : ByteArray) (c_Value : ByteArray) : Option Bool := s_CommandOK.F (fun y0 => some y0) c_Kind c_Session c_Seq c_Key c_Value
theorem s_CommandOK_nat {S : Type} (g : Bool → Option S) (c_Kind : Int) (c_Session : Int) (c_Seq : Int) (c_Key : ByteArray) (c_Value : ByteArray) : s_CommandOK.F (fun y0 => g y0) c_Kind c_Session c_Seq c_Key c_Value = (s_CommandOK c_Kind c_Session c_Seq c_Key c_Value).bind g := s_CommandOK.F_nat g (fun y0 => some y0) c_Kind c_Session c_Seq c_Key c_Value
def s_CommandOK.E : Env := ⟨tt, lkF [(69, s_l01In.fi), (97, s_l02Key.fi)], 53, 0, [], []⟩
def s_CommandOK.sh1 : SK := ⟨[.v (.one (.bptr 0 0)), .v (.one (.int .i64))], [.box [.int .i64, .int .i64, .int .i64, .str, .str]]⟩
def s_CommandOK.sh1n : SK := ⟨[.v (.one (.bptr 0 0)), .v (.one (.int .i64)), .v (.one (.bool))], [.box [.int .i64, .int .i64, .int .i64, .str, .str]]⟩
def s_CommandOK.ko1 : Ex → List CastAt × List Nat
  | .nrm => ([], [1, 20, 21])
  | .ret => ([], [])
  | .ext i => ([], [])
def s_CommandOK.G1 (R : Type) (t : s_CommandOK.sh1.T) (K : Ex → Kp → Option R) : Option R := s_CommandOK.j1 (fun y0 y1 y2 y3 y4 y5 y6 => K .nrm (SK.enc s_CommandOK.sh1n (((), y0, y1, ()), ((y2, y3, y4, y5, y6, ()), ())))) t.1.2.1 t.2.1.1 t.2.1.2.1 t.2.1.2.2.1 t.2.1.2.2.2.1 t.2.1.2.2.2.2.1
def s_CommandOK.S1 : Sum := ⟨([], [1, 20]), sumF s_CommandOK.sh1 (s_CommandOK.G1), s_CommandOK.ko1⟩
theorem s_CommandOK.ok1 (hE : EOk Try.prog (s_CommandOK.E)) : SumOk Try.prog s_CommandOK.E (cL (cB (cR (cL (cR (cR (bodyOf Try.f48))))))) (s_CommandOK.S1) := by
  have hh : HintOk Try.prog s_CommandOK.E (cL (cB (cR (cL (cR (cR (bodyOf Try.f48))))))) (.a) := HintOk.n1 (Q := True) (by kernel_rfl) trivial
  exact sumS (kin := ([], [1, 20])) (kout := s_CommandOK.ko1) (sh := s_CommandOK.sh1) (F := s_CommandOK.G1) (ops_ok (hE.gv _)) (by kernel_rfl) hh (fun R t K => by kernel_rfl)
def s_CommandOK.sh2 : SK := ⟨[.v (.one (.bptr 0 0)), .v (.one (.int .i64))], [.box [.int .i64, .int .i64, .int .i64, .str, .str]]⟩
def s_CommandOK.sh2n : SK := ⟨[.v (.one (.bptr 0 0)), .v (.one (.bool))], [.box [.int .i64, .int .i64, .int .i64, .str, .str]]⟩
def s_CommandOK.ko2 : Ex → List CastAt × List Nat
  | .nrm => ([], [1, 37])
  | .ret => ([], [])
  | .ext i => ([], [])
def s_CommandOK.G2 (R : Type) (t : s_CommandOK.sh2.T) (K : Ex → Kp → Option R) : Option R := s_CommandOK.j2 (fun y0 y1 y2 y3 y4 y5 => K .nrm (SK.enc s_CommandOK.sh2n (((), y0, ()), ((y1, y2, y3, y4, y5, ()), ())))) t.1.2.1 t.2.1.1 t.2.1.2.1 t.2.1.2.2.1 t.2.1.2.2.2.1 t.2.1.2.2.2.2.1
def s_CommandOK.S2 : Sum := ⟨([], [1, 20]), sumF s_CommandOK.sh2 (s_CommandOK.G2), s_CommandOK.ko2⟩
theorem s_CommandOK.ok2 (hE : EOk Try.prog (s_CommandOK.E)) : SumOk Try.prog s_CommandOK.E (cL (cR (cR (cR (cR (cB (cR (cL (cR (cR (bodyOf Try.f48))))))))))) (s_CommandOK.S2) := by
  have hh : HintOk Try.prog s_CommandOK.E (cL (cR (cR (cR (cR (cB (cR (cL (cR (cR (bodyOf Try.f48))))))))))) (.a) := HintOk.n1 (Q := True) (by kernel_rfl) trivial
  exact sumS (kin := ([], [1, 20])) (kout := s_CommandOK.ko2) (sh := s_CommandOK.sh2) (F := s_CommandOK.G2) (ops_ok (hE.gv _)) (by kernel_rfl) hh (fun R t K => by kernel_rfl)
def s_CommandOK.out : Bool → CRes := fun a => ⟨encL SV.enc [.one (.bool)] (a, ()), [encL SC.enc [] ()]⟩
def s_CommandOK.ps : List PS := [.val [none, none, none, none, none]]
def s_CommandOK.sA : List SA := [.v (.agg [.int .i64, .int .i64, .int .i64, .str, .str])]
def s_CommandOK.fi : FI := FIs s_CommandOK.sA (Bool) (fun t => s_CommandOK t.1.1 t.1.2.1 t.1.2.2.1 t.1.2.2.2.1 t.1.2.2.2.2.1) s_CommandOK.out s_CommandOK.ps
theorem s_CommandOK.hok (hE : EOk Try.prog (s_CommandOK.E)) : HintOk Try.prog s_CommandOK.E (bodyOf Try.f48) (.n (.a) (.n (.a) (.n (.n (.a) (.b (.n (.s (s_CommandOK.S1)) (.n (.a) (.n (.a) (.n (.a) (.n (.s (s_CommandOK.S2)) (.a)))))))) (.a)))) := HintOk.n1 (Q := (True) ∧ ((True) ∧ (((True) ∧ ((SumOk Try.prog s_CommandOK.E (cL (cB (cR (cL (cR (cR (bodyOf Try.f48))))))) (s_CommandOK.S1)) ∧ ((True) ∧ ((True) ∧ ((True) ∧ ((SumOk Try.prog s_CommandOK.E (cL (cR (cR (cR (cR (cB (cR (cL (cR (cR (bodyOf Try.f48))))))))))) (s_CommandOK.S2)) ∧ (True))))))) ∧ (True)))) (by kernel_rfl) ⟨trivial, ⟨trivial, ⟨⟨trivial, ⟨(s_CommandOK.ok1 hE), ⟨trivial, ⟨trivial, ⟨trivial, ⟨(s_CommandOK.ok2 hE), trivial⟩⟩⟩⟩⟩⟩, trivial⟩⟩⟩
theorem s_CommandOK.hE : EOk Try.prog (s_CommandOK.E) := EOk.of ttOk (⟨s_l01In.fok, ⟨s_l02Key.fok, trivial⟩⟩)
theorem s_CommandOK.fok : FOk Try.prog 48 s_CommandOK.fi :=
  fokS (E := s_CommandOK.E) (wy := ⟨[[none]], [[]], []⟩) (h := (fun gs => .n (.a) (.n (.a) (.n (.n (.a) (.b (.n (.s (s_CommandOK.S1)) (.n (.a) (.n (.a) (.n (.a) (.n (.s (s_CommandOK.S2)) (.a)))))))) (.a))))) (G := fun t g => s_CommandOK.F (fun y0 => g y0) t.1.1 t.1.2.1 t.1.2.2.1 t.1.2.2.2.1 t.1.2.2.2.2.1) (by kernel_rfl) s_CommandOK.hE Try.func48 (by kernel_rfl) rfl (Nat.le_refl _) (fun t => HintOk.n1 (by kernel_rfl) (s_CommandOK.hok s_CommandOK.hE)) (fun t g => s_CommandOK_nat g t.1.1 t.1.2.1 t.1.2.2.1 t.1.2.2.2.1 t.1.2.2.2.2.1) (fun t => by kernel_rfl)
/-! loop.example_g00220_spec.l02Two -/
def s_l02Two.F {R : Type} (kk : List Int → Option R) (n_ : Int) : Option R :=
  grd (gNz (256 : Int)) <|
  kk [IntKind.wrap .u8 (IntKind.wrap .i64 (Int.tdiv n_ (256 : Int))), IntKind.wrap .u8 n_]
theorem s_l02Two.F_nat {R S : Type} (g : R → Option S) (kk : List Int → Option R) (n_ : Int) : s_l02Two.F (fun y0 => (kk y0).bind g) n_ = (s_l02Two.F kk n_).bind g := by
  simp only [s_l02Two.F, grd_bind, cnd_bind, bnd_bind, non_bind]
def s_l02Two (n_ : Int) : Option (List Int) := s_l02Two.F (fun y0 => some y0) n_
theorem s_l02Two_nat {S : Type} (g : (List Int) → Option S) (n_ : Int) : s_l02Two.F (fun y0 => g y0) n_ = (s_l02Two n_).bind g := s_l02Two.F_nat g (fun y0 => some y0) n_
def s_l02Two.E : Env := ⟨tt, lkF [], 9, 0, [], []⟩
def s_l02Two.out : (List Int) → CRes := fun a => ⟨encL SV.enc [.one (.own [] (.int .u8) true)] (a, ()), [encL SC.enc [] ()]⟩
def s_l02Two.ps : List PS := [.val [none]]
def s_l02Two.sA : List SA := [.v (.one (.int .i64))]
def s_l02Two.fi : FI := FIs s_l02Two.sA (List Int) (fun t => s_l02Two t.1) s_l02Two.out s_l02Two.ps
theorem s_l02Two.hok (hE : EOk Try.prog (s_l02Two.E)) : HintOk Try.prog s_l02Two.E (bodyOf Try.f98) (.a) := HintOk.n1 (Q := True) (by kernel_rfl) trivial
theorem s_l02Two.hE : EOk Try.prog (s_l02Two.E) := EOk.of ttOk (trivial)
theorem s_l02Two.fok : FOk Try.prog 98 s_l02Two.fi :=
  fokS (E := s_l02Two.E) (wy := ⟨[[some ((.int .u8), true)]], [[]], []⟩) (h := (fun gs => .a)) (G := fun t g => s_l02Two.F (fun y0 => g y0) t.1) (by kernel_rfl) s_l02Two.hE Try.func98 (by kernel_rfl) rfl (Nat.le_refl _) (fun t => HintOk.n1 (by kernel_rfl) (s_l02Two.hok s_l02Two.hE)) (fun t g => s_l02Two_nat g t.1) (fun t => by kernel_rfl)
/-! loop.example_g00220_spec.l02Bytes -/
def s_l02Bytes.F {R : Type} (kk : List Int → Option R) (c_Kind : Int) (c_Session : Int) (c_Seq : Int) (c_Key : ByteArray) (c_Value : ByteArray) : Option R :=
  (s_l02Two c_Session).bind fun r =>
  grd (gRm (((List.length [IntKind.wrap .u8 c_Kind]) + (List.length r)) * 1)) <|
  (s_l02Two c_Seq).bind fun r1 =>
  grd (gRm (((List.length ([IntKind.wrap .u8 c_Kind] ++ r)) + (List.length r1)) * 1)) <|
  grd (gRm (((List.length (([IntKind.wrap .u8 c_Kind] ++ r) ++ r1)) + (List.length [IntKind.wrap .u8 (ByteArray.size c_Key : Int)])) * 1)) <|
  grd (gRm (((List.length ((([IntKind.wrap .u8 c_Kind] ++ r) ++ r1) ++ [IntKind.wrap .u8 (ByteArray.size c_Key : Int)])) + (List.length (bytesL c_Key))) * 1)) <|
  grd (gRm (((List.length (((([IntKind.wrap .u8 c_Kind] ++ r) ++ r1) ++ [IntKind.wrap .u8 (ByteArray.size c_Key : Int)]) ++ (bytesL c_Key))) + (List.length [IntKind.wrap .u8 (ByteArray.size c_Value : Int)])) * 1)) <|
  grd (gRm (((List.length ((((([IntKind.wrap .u8 c_Kind] ++ r) ++ r1) ++ [IntKind.wrap .u8 (ByteArray.size c_Key : Int)]) ++ (bytesL c_Key)) ++ [IntKind.wrap .u8 (ByteArray.size c_Value : Int)])) + (List.length (bytesL c_Value))) * 1)) <|
  kk (((((([IntKind.wrap .u8 c_Kind] ++ r) ++ r1) ++ [IntKind.wrap .u8 (ByteArray.size c_Key : Int)]) ++ (bytesL c_Key)) ++ [IntKind.wrap .u8 (ByteArray.size c_Value : Int)]) ++ (bytesL c_Value))
theorem s_l02Bytes.F_nat {R S : Type} (g : R → Option S) (kk : List Int → Option R) (c_Kind : Int) (c_Session : Int) (c_Seq : Int) (c_Key : ByteArray) (c_Value : ByteArray) : s_l02Bytes.F (fun y0 => (kk y0).bind g) c_Kind c_Session c_Seq c_Key c_Value = (s_l02Bytes.F kk c_Kind c_Session c_Seq c_Key c_Value).bind g := by
  simp only [s_l02Bytes.F, grd_bind, cnd_bind, bnd_bind, non_bind]
def s_l02Bytes (c_Kind : Int) (c_Session : Int) (c_Seq : Int) (c_Key : ByteArray) (c_Value : ByteArray) : Option (List Int) := s_l02Bytes.F (fun y0 => some y0) c_Kind c_Session c_Seq c_Key c_Value
theorem s_l02Bytes_nat {S : Type} (g : (List Int) → Option S) (c_Kind : Int) (c_Session : Int) (c_Seq : Int) (c_Key : ByteArray) (c_Value : ByteArray) : s_l02Bytes.F (fun y0 => g y0) c_Kind c_Session c_Seq c_Key c_Value = (s_l02Bytes c_Kind c_Session c_Seq c_Key c_Value).bind g := s_l02Bytes.F_nat g (fun y0 => some y0) c_Kind c_Session c_Seq c_Key c_Value
def s_l02Bytes.E : Env := ⟨tt, lkF [(98, s_l02Two.fi)], 37, 0, [], []⟩
def s_l02Bytes.out : (List Int) → CRes := fun a => ⟨encL SV.enc [.one (.own [] (.int .u8) true)] (a, ()), [encL SC.enc [] ()]⟩
def s_l02Bytes.ps : List PS := [.val [none, none, none, none, none]]
def s_l02Bytes.sA : List SA := [.v (.agg [.int .i64, .int .i64, .int .i64, .str, .str])]
def s_l02Bytes.fi : FI := FIs s_l02Bytes.sA (List Int) (fun t => s_l02Bytes t.1.1 t.1.2.1 t.1.2.2.1 t.1.2.2.2.1 t.1.2.2.2.2.1) s_l02Bytes.out s_l02Bytes.ps
theorem s_l02Bytes.hok (hE : EOk Try.prog (s_l02Bytes.E)) : HintOk Try.prog s_l02Bytes.E (bodyOf Try.f49) (.a) := HintOk.n1 (Q := True) (by kernel_rfl) trivial
theorem s_l02Bytes.hE : EOk Try.prog (s_l02Bytes.E) := EOk.of ttOk (⟨s_l02Two.fok, trivial⟩)
theorem s_l02Bytes.fok : FOk Try.prog 49 s_l02Bytes.fi :=
  fokS (E := s_l02Bytes.E) (wy := ⟨[[some ((.int .u8), true)]], [[]], []⟩) (h := (fun gs => .a)) (G := fun t g => s_l02Bytes.F (fun y0 => g y0) t.1.1 t.1.2.1 t.1.2.2.1 t.1.2.2.2.1 t.1.2.2.2.2.1) (by kernel_rfl) s_l02Bytes.hE Try.func49 (by kernel_rfl) rfl (Nat.le_refl _) (fun t => HintOk.n1 (by kernel_rfl) (s_l02Bytes.hok s_l02Bytes.hE)) (fun t g => s_l02Bytes_nat g t.1.1 t.1.2.1 t.1.2.2.1 t.1.2.2.2.1 t.1.2.2.2.2.1) (fun t => by kernel_rfl)
/-! loop.example_g00220_spec.CommandBytes -/
def s_CommandBytes.F {R : Type} (kk : List Int → Int → Option R) (c_Kind : Int) (c_Session : Int) (c_Seq : Int) (c_Key : ByteArray) (c_Value : ByteArray) : Option R :=
  (s_CommandOK c_Kind c_Session c_Seq c_Key c_Value).bind fun r =>
  cond (!r) (kk ([] : List Int) (1 : Int)) (
    (s_l02Bytes c_Kind c_Session c_Seq c_Key c_Value).bind fun r1 =>
    kk r1 (0 : Int))
theorem s_CommandBytes.F_nat {R S : Type} (g : R → Option S) (kk : List Int → Int → Option R) (c_Kind : Int) (c_Session : Int) (c_Seq : Int) (c_Key : ByteArray) (c_Value : ByteArray) : s_CommandBytes.F (fun y0 y1 => (kk y0 y1).bind g) c_Kind c_Session c_Seq c_Key c_Value = (s_CommandBytes.F kk c_Kind c_Session c_Seq c_Key c_Value).bind g := by
  simp only [s_CommandBytes.F, grd_bind, cnd_bind, bnd_bind, non_bind]
def s_CommandBytes (c_Kind : Int) (c_Session : Int) (c_Seq : Int) (c_Key : ByteArray) (c_Value : ByteArray) : Option (List Int × Int) := s_CommandBytes.F (fun y0 y1 => some (y0, y1)) c_Kind c_Session c_Seq c_Key c_Value
theorem s_CommandBytes_nat {S : Type} (g : (List Int × Int) → Option S) (c_Kind : Int) (c_Session : Int) (c_Seq : Int) (c_Key : ByteArray) (c_Value : ByteArray) : s_CommandBytes.F (fun y0 y1 => g (y0, y1)) c_Kind c_Session c_Seq c_Key c_Value = (s_CommandBytes c_Kind c_Session c_Seq c_Key c_Value).bind g := s_CommandBytes.F_nat g (fun y0 y1 => some (y0, y1)) c_Kind c_Session c_Seq c_Key c_Value
def s_CommandBytes.E : Env := ⟨tt, lkF [(48, s_CommandOK.fi), (49, s_l02Bytes.fi)], 10, 0, [], []⟩
def s_CommandBytes.out : (List Int × Int) → CRes := fun a => ⟨encL SV.enc [.one (.own [] (.int .u8) true), .one (.int .i64)] (a.1, a.2, ()), [encL SC.enc [] ()]⟩
def s_CommandBytes.ps : List PS := [.val [none, none, none, none, none]]
def s_CommandBytes.sA : List SA := [.v (.agg [.int .i64, .int .i64, .int .i64, .str, .str])]
def s_CommandBytes.fi : FI := FIs s_CommandBytes.sA (List Int × Int) (fun t => s_CommandBytes t.1.1 t.1.2.1 t.1.2.2.1 t.1.2.2.2.1 t.1.2.2.2.2.1) s_CommandBytes.out s_CommandBytes.ps
theorem s_CommandBytes.hok (hE : EOk Try.prog (s_CommandBytes.E)) : HintOk Try.prog s_CommandBytes.E (bodyOf Try.f11) (.a) := HintOk.n1 (Q := True) (by kernel_rfl) trivial
theorem s_CommandBytes.hE : EOk Try.prog (s_CommandBytes.E) := EOk.of ttOk (⟨s_CommandOK.fok, ⟨s_l02Bytes.fok, trivial⟩⟩)
theorem s_CommandBytes.fok : FOk Try.prog 11 s_CommandBytes.fi :=
  fokS (E := s_CommandBytes.E) (wy := ⟨[[some ((.int .u8), true)], [none]], [[]], []⟩) (h := (fun gs => .a)) (G := fun t g => s_CommandBytes.F (fun y0 y1 => g (y0, y1)) t.1.1 t.1.2.1 t.1.2.2.1 t.1.2.2.2.1 t.1.2.2.2.2.1) (by kernel_rfl) s_CommandBytes.hE Try.func11 (by kernel_rfl) rfl (Nat.le_refl _) (fun t => HintOk.n1 (by kernel_rfl) (s_CommandBytes.hok s_CommandBytes.hE)) (fun t g => s_CommandBytes_nat g t.1.1 t.1.2.1 t.1.2.2.1 t.1.2.2.2.1 t.1.2.2.2.2.1) (fun t => by kernel_rfl)
/-! loop.example_g00220_impl.numberOf -/
def i_numberOf.l1 {R : Type} (kke0 : Int → Option R) : Nat → ByteArray → Int → Int → Int → Option R
  | 0, _, _, _, _ => none
  | n + 1, s, n_, i, i1 =>
    cond (decide (i1 < i)) (
      grd (gSh (8 : Int)) <|
      grd (gIx i1 (ByteArray.size s)) <|
      i_numberOf.l1 kke0 n s (IntKind.wrap .i64 ((iShl .i64 n_ (8 : Int)) + (IntKind.wrap .i64 (byteAt s i1)))) i (IntKind.wrap .i64 (i1 + (1 : Int)))) (kke0 n_)
theorem i_numberOf.l1_nat {R S : Type} (g : R → Option S) (kke0 : Int → Option R) : ∀ (n : Nat) (s : ByteArray) (n_ : Int) (i : Int) (i1 : Int), i_numberOf.l1 (fun y0 => (kke0 y0).bind g) n s n_ i i1 = (i_numberOf.l1 kke0 n s n_ i i1).bind g := by
  intro n
  induction n with
  | zero => intros; rfl
  | succ n ih => intros; simp only [i_numberOf.l1, grd_bind, cnd_bind, bnd_bind, non_bind, ih]
def i_numberOf.F {R : Type} (kk : Int → Option R) (s : ByteArray) : Option R :=
  i_numberOf.l1 (fun n_ => kk n_) fuel s (0 : Int) (ByteArray.size s : Int) (0 : Int)
theorem i_numberOf.F_nat {R S : Type} (g : R → Option S) (kk : Int → Option R) (s : ByteArray) : i_numberOf.F (fun y0 => (kk y0).bind g) s = (i_numberOf.F kk s).bind g := by
  simp only [i_numberOf.F, grd_bind, cnd_bind, bnd_bind, non_bind, ← i_numberOf.l1_nat]
def i_numberOf (s : ByteArray) : Option Int := i_numberOf.F (fun y0 => some y0) s
theorem i_numberOf_nat {S : Type} (g : Int → Option S) (s : ByteArray) : i_numberOf.F (fun y0 => g y0) s = (i_numberOf s).bind g := i_numberOf.F_nat g (fun y0 => some y0) s
def i_numberOf.E : Env := ⟨tt, lkF [], 19, 0, [], []⟩
def i_numberOf.sh1 : SK := ⟨[.v (.one (.str)), .v (.one (.int .i64)), .v (.one (.int .i64)), .v (.one (.int .i64))], []⟩
def i_numberOf.sh1e0 : SK := ⟨[.v (.one (.int .i64))], []⟩
def i_numberOf.ko1 : Ex → List CastAt × List Nat
  | .nrm => ([], [])
  | .ret => ([], [])
  | .ext i => cond (Nat.beq i 0) ([], [3]) ([], [])
def i_numberOf.G1 (n : Nat) (R : Type) (t : i_numberOf.sh1.T) (K : Ex → Kp → Option R) : Option R := i_numberOf.l1 (fun y0 => K (.ext 0) (SK.enc i_numberOf.sh1e0 ((y0, ()), ()))) n t.1.1 t.1.2.1 t.1.2.2.1 t.1.2.2.2.1
def i_numberOf.S1 : Sum := ⟨([], [0, 3, 6, 7]), sumF i_numberOf.sh1 (i_numberOf.G1 fuel), i_numberOf.ko1⟩
theorem i_numberOf.ok1 (hE : EOk Try.prog (i_numberOf.E)) : SumOk Try.prog i_numberOf.E (cB (cR (cL (cR (cR (bodyOf Try.f140)))))) (i_numberOf.S1) := by
  have hh : HintOk Try.prog i_numberOf.E (cB (cB (cR (cL (cR (cR (bodyOf Try.f140))))))) (.a) := HintOk.n1 (Q := True) (by kernel_rfl) trivial
  have h := loopS (kin := ([], [0, 3, 6, 7])) (kout := i_numberOf.ko1) (sh := i_numberOf.sh1) (F := i_numberOf.G1) (ops_ok (hE.gv _)) (by kernel_rfl) hh (fun _ _ _ => rfl) (fun n R t K => by kernel_rfl) fuel
  exact HintOk.n1 (c := (cB (cR (cL (cR (cR (bodyOf Try.f140))))))) (h := .s (i_numberOf.S1)) (P := Try.prog) (E := i_numberOf.E) (by kernel_rfl) h
def i_numberOf.out : Int → CRes := fun a => ⟨encL SV.enc [.one (.int .i64)] (a, ()), [encL SC.enc [] ()]⟩
def i_numberOf.ps : List PS := [.val [none]]
def i_numberOf.sA : List SA := [.v (.one (.str))]
def i_numberOf.fi : FI := FIs i_numberOf.sA (Int) (fun t => i_numberOf t.1) i_numberOf.out i_numberOf.ps
theorem i_numberOf.hok (hE : EOk Try.prog (i_numberOf.E)) : HintOk Try.prog i_numberOf.E (bodyOf Try.f140) (.n (.a) (.n (.a) (.n (.n (.a) (.b (.s (i_numberOf.S1)))) (.a)))) := HintOk.n1 (Q := (True) ∧ ((True) ∧ (((True) ∧ (SumOk Try.prog i_numberOf.E (cB (cR (cL (cR (cR (bodyOf Try.f140)))))) (i_numberOf.S1))) ∧ (True)))) (by kernel_rfl) ⟨trivial, ⟨trivial, ⟨⟨trivial, (i_numberOf.ok1 hE)⟩, trivial⟩⟩⟩
theorem i_numberOf.hE : EOk Try.prog (i_numberOf.E) := EOk.of ttOk (trivial)
theorem i_numberOf.fok : FOk Try.prog 140 i_numberOf.fi :=
  fokS (E := i_numberOf.E) (wy := ⟨[[none]], [[]], []⟩) (h := (fun gs => .n (.a) (.n (.a) (.n (.n (.a) (.b (.s (i_numberOf.S1)))) (.a))))) (G := fun t g => i_numberOf.F (fun y0 => g y0) t.1) (by kernel_rfl) i_numberOf.hE Try.func140 (by kernel_rfl) rfl (Nat.le_refl _) (fun t => HintOk.n1 (by kernel_rfl) (i_numberOf.hok i_numberOf.hE)) (fun t g => i_numberOf_nat g t.1) (fun t => by kernel_rfl)
/-! __loop.example_g00220_impl.reader_.take -/
def i_reader_take.F {R : Type} (kk : ByteArray → ByteArray → Bool → Option R) (r_s : ByteArray) (r_bad : Bool) (many : Int) : Option R :=
  cond (r_bad) (kk ByteArray.empty r_s true) (
    cond (decide (many > (ByteArray.size r_s : Int))) (kk ByteArray.empty r_s true) (
      grd (gSl (0 : Int) many (ByteArray.size r_s)) <|
      grd (gSl many (ByteArray.size r_s : Int) (ByteArray.size r_s)) <|
      kk (cut r_s (0 : Int) many) (cut r_s many (ByteArray.size r_s : Int)) r_bad))
theorem i_reader_take.F_nat {R S : Type} (g : R → Option S) (kk : ByteArray → ByteArray → Bool → Option R) (r_s : ByteArray) (r_bad : Bool) (many : Int) : i_reader_take.F (fun y0 y1 y2 => (kk y0 y1 y2).bind g) r_s r_bad many = (i_reader_take.F kk r_s r_bad many).bind g := by
  simp only [i_reader_take.F, grd_bind, cnd_bind, bnd_bind, non_bind]
def i_reader_take (r_s : ByteArray) (r_bad : Bool) (many : Int) : Option (ByteArray × ByteArray × Bool) := i_reader_take.F (fun y0 y1 y2 => some (y0, y1, y2)) r_s r_bad many
theorem i_reader_take_nat {S : Type} (g : (ByteArray × ByteArray × Bool) → Option S) (r_s : ByteArray) (r_bad : Bool) (many : Int) : i_reader_take.F (fun y0 y1 y2 => g (y0, y1, y2)) r_s r_bad many = (i_reader_take r_s r_bad many).bind g := i_reader_take.F_nat g (fun y0 y1 y2 => some (y0, y1, y2)) r_s r_bad many
def i_reader_take.E : Env := ⟨tt, lkF [], 38, 1, [], []⟩
def i_reader_take.out : (ByteArray × ByteArray × Bool) → CRes := fun a => ⟨encL SV.enc [.one (.str)] (a.1, ()), [encL SC.enc [.str, .bool] (a.2.1, a.2.2, ()), encL SC.enc [] ()]⟩
def i_reader_take.ps : List PS := [.ptr [none, none], .val [none]]
def i_reader_take.sA : List SA := [.ptr [.str, .bool], .v (.one (.int .i64))]
def i_reader_take.fi : FI := FIs i_reader_take.sA (ByteArray × ByteArray × Bool) (fun t => i_reader_take t.1.1 t.1.2.1 t.2.1) i_reader_take.out i_reader_take.ps
theorem i_reader_take.hok (hE : EOk Try.prog (i_reader_take.E)) : HintOk Try.prog i_reader_take.E (bodyOf Try.f141) (.a) := HintOk.n1 (Q := True) (by kernel_rfl) trivial
theorem i_reader_take.hE : EOk Try.prog (i_reader_take.E) := EOk.of ttOk (trivial)
theorem i_reader_take.fok : FOk Try.prog 141 i_reader_take.fi :=
  fokS (E := i_reader_take.E) (wy := ⟨[[none]], [[none, none], []], []⟩) (h := (fun gs => .a)) (G := fun t g => i_reader_take.F (fun y0 y1 y2 => g (y0, y1, y2)) t.1.1 t.1.2.1 t.2.1) (by kernel_rfl) i_reader_take.hE Try.func141 (by kernel_rfl) rfl (Nat.le_refl _) (fun t => HintOk.n1 (by kernel_rfl) (i_reader_take.hok i_reader_take.hE)) (fun t g => i_reader_take_nat g t.1.1 t.1.2.1 t.2.1) (fun t => by kernel_rfl)
/-! __loop.example_g00220_impl.reader_.number -/
def i_reader_number.F {R : Type} (kk : Int → ByteArray → Bool → Option R) (r_s : ByteArray) (r_bad : Bool) (many : Int) : Option R :=
  (i_reader_take r_s r_bad many).bind fun r =>
  (i_numberOf r.1).bind fun r1 =>
  kk r1 r.2.1 r.2.2
theorem i_reader_number.F_nat {R S : Type} (g : R → Option S) (kk : Int → ByteArray → Bool → Option R) (r_s : ByteArray) (r_bad : Bool) (many : Int) : i_reader_number.F (fun y0 y1 y2 => (kk y0 y1 y2).bind g) r_s r_bad many = (i_reader_number.F kk r_s r_bad many).bind g := by
  simp only [i_reader_number.F, grd_bind, cnd_bind, bnd_bind, non_bind]
def i_reader_number (r_s : ByteArray) (r_bad : Bool) (many : Int) : Option (Int × ByteArray × Bool) := i_reader_number.F (fun y0 y1 y2 => some (y0, y1, y2)) r_s r_bad many
theorem i_reader_number_nat {S : Type} (g : (Int × ByteArray × Bool) → Option S) (r_s : ByteArray) (r_bad : Bool) (many : Int) : i_reader_number.F (fun y0 y1 y2 => g (y0, y1, y2)) r_s r_bad many = (i_reader_number r_s r_bad many).bind g := i_reader_number.F_nat g (fun y0 y1 y2 => some (y0, y1, y2)) r_s r_bad many
def i_reader_number.E : Env := ⟨tt, lkF [(140, i_numberOf.fi), (141, i_reader_take.fi)], 9, 1, [], []⟩
def i_reader_number.out : (Int × ByteArray × Bool) → CRes := fun a => ⟨encL SV.enc [.one (.int .i64)] (a.1, ()), [encL SC.enc [.str, .bool] (a.2.1, a.2.2, ()), encL SC.enc [] ()]⟩
def i_reader_number.ps : List PS := [.ptr [none, none], .val [none]]
def i_reader_number.sA : List SA := [.ptr [.str, .bool], .v (.one (.int .i64))]
def i_reader_number.fi : FI := FIs i_reader_number.sA (Int × ByteArray × Bool) (fun t => i_reader_number t.1.1 t.1.2.1 t.2.1) i_reader_number.out i_reader_number.ps
theorem i_reader_number.hok (hE : EOk Try.prog (i_reader_number.E)) : HintOk Try.prog i_reader_number.E (bodyOf Try.f99) (.a) := HintOk.n1 (Q := True) (by kernel_rfl) trivial
theorem i_reader_number.hE : EOk Try.prog (i_reader_number.E) := EOk.of ttOk (⟨i_numberOf.fok, ⟨i_reader_take.fok, trivial⟩⟩)
theorem i_reader_number.fok : FOk Try.prog 99 i_reader_number.fi :=
  fokS (E := i_reader_number.E) (wy := ⟨[[none]], [[none, none], []], []⟩) (h := (fun gs => .a)) (G := fun t g => i_reader_number.F (fun y0 y1 y2 => g (y0, y1, y2)) t.1.1 t.1.2.1 t.2.1) (by kernel_rfl) i_reader_number.hE Try.func99 (by kernel_rfl) rfl (Nat.le_refl _) (fun t => HintOk.n1 (by kernel_rfl) (i_reader_number.hok i_reader_number.hE)) (fun t g => i_reader_number_nat g t.1.1 t.1.2.1 t.2.1) (fun t => by kernel_rfl)
/-! __loop.example_g00220_impl.reader_.counted -/
def i_reader_counted.F {R : Type} (kk : ByteArray → ByteArray → Bool → Option R) (r_s : ByteArray) (r_bad : Bool) : Option R :=
  (i_reader_number r_s r_bad (1 : Int)).bind fun r =>
  (i_reader_take r.2.1 r.2.2 r.1).bind fun r1 =>
  kk r1.1 r1.2.1 r1.2.2
theorem i_reader_counted.F_nat {R S : Type} (g : R → Option S) (kk : ByteArray → ByteArray → Bool → Option R) (r_s : ByteArray) (r_bad : Bool) : i_reader_counted.F (fun y0 y1 y2 => (kk y0 y1 y2).bind g) r_s r_bad = (i_reader_counted.F kk r_s r_bad).bind g := by
  simp only [i_reader_counted.F, grd_bind, cnd_bind, bnd_bind, non_bind]
def i_reader_counted (r_s : ByteArray) (r_bad : Bool) : Option (ByteArray × ByteArray × Bool) := i_reader_counted.F (fun y0 y1 y2 => some (y0, y1, y2)) r_s r_bad
theorem i_reader_counted_nat {S : Type} (g : (ByteArray × ByteArray × Bool) → Option S) (r_s : ByteArray) (r_bad : Bool) : i_reader_counted.F (fun y0 y1 y2 => g (y0, y1, y2)) r_s r_bad = (i_reader_counted r_s r_bad).bind g := i_reader_counted.F_nat g (fun y0 y1 y2 => some (y0, y1, y2)) r_s r_bad
def i_reader_counted.E : Env := ⟨tt, lkF [(99, i_reader_number.fi), (141, i_reader_take.fi)], 7, 1, [], []⟩
def i_reader_counted.out : (ByteArray × ByteArray × Bool) → CRes := fun a => ⟨encL SV.enc [.one (.str)] (a.1, ()), [encL SC.enc [.str, .bool] (a.2.1, a.2.2, ())]⟩
def i_reader_counted.ps : List PS := [.ptr [none, none]]
def i_reader_counted.sA : List SA := [.ptr [.str, .bool]]
def i_reader_counted.fi : FI := FIs i_reader_counted.sA (ByteArray × ByteArray × Bool) (fun t => i_reader_counted t.1.1 t.1.2.1) i_reader_counted.out i_reader_counted.ps
theorem i_reader_counted.hok (hE : EOk Try.prog (i_reader_counted.E)) : HintOk Try.prog i_reader_counted.E (bodyOf Try.f100) (.a) := HintOk.n1 (Q := True) (by kernel_rfl) trivial
theorem i_reader_counted.hE : EOk Try.prog (i_reader_counted.E) := EOk.of ttOk (⟨i_reader_number.fok, ⟨i_reader_take.fok, trivial⟩⟩)
theorem i_reader_counted.fok : FOk Try.prog 100 i_reader_counted.fi :=
  fokS (E := i_reader_counted.E) (wy := ⟨[[none]], [[none, none]], []⟩) (h := (fun gs => .a)) (G := fun t g => i_reader_counted.F (fun y0 y1 y2 => g (y0, y1, y2)) t.1.1 t.1.2.1) (by kernel_rfl) i_reader_counted.hE Try.func100 (by kernel_rfl) rfl (Nat.le_refl _) (fun t => HintOk.n1 (by kernel_rfl) (i_reader_counted.hok i_reader_counted.hE)) (fun t g => i_reader_counted_nat g t.1.1 t.1.2.1) (fun t => by kernel_rfl)
/-! loop.example_g00220_impl.readCommand -/
def i_readCommand.F {R : Type} (kk : Int → Int → Int → ByteArray → ByteArray → Bool → Option R) (s : ByteArray) : Option R :=
  (i_reader_number s false (1 : Int)).bind fun r =>
  (i_reader_number r.2.1 r.2.2 (2 : Int)).bind fun r1 =>
  (i_reader_number r1.2.1 r1.2.2 (2 : Int)).bind fun r2 =>
  (i_reader_counted r2.2.1 r2.2.2).bind fun r3 =>
  (i_reader_counted r3.2.1 r3.2.2).bind fun r4 =>
  cond (!r4.2.2) (
    cond (sEq r4.2.1 ByteArray.empty) (
      (i_CommandOK r.1 r1.1 r2.1 r3.1 r4.1).bind fun r5 =>
      kk r.1 r1.1 r2.1 r3.1 r4.1 r5) (kk r.1 r1.1 r2.1 r3.1 r4.1 false)) (kk r.1 r1.1 r2.1 r3.1 r4.1 false)
theorem i_readCommand.F_nat {R S : Type} (g : R → Option S) (kk : Int → Int → Int → ByteArray → ByteArray → Bool → Option R) (s : ByteArray) : i_readCommand.F (fun y0 y1 y2 y3 y4 y5 => (kk y0 y1 y2 y3 y4 y5).bind g) s = (i_readCommand.F kk s).bind g := by
  simp only [i_readCommand.F, grd_bind, cnd_bind, bnd_bind, non_bind]
def i_readCommand (s : ByteArray) : Option (Int × Int × Int × ByteArray × ByteArray × Bool) := i_readCommand.F (fun y0 y1 y2 y3 y4 y5 => some (y0, y1, y2, y3, y4, y5)) s
theorem i_readCommand_nat {S : Type} (g : (Int × Int × Int × ByteArray × ByteArray × Bool) → Option S) (s : ByteArray) : i_readCommand.F (fun y0 y1 y2 y3 y4 y5 => g (y0, y1, y2, y3, y4, y5)) s = (i_readCommand s).bind g := i_readCommand.F_nat g (fun y0 y1 y2 y3 y4 y5 => some (y0, y1, y2, y3, y4, y5)) s
def i_readCommand.E : Env := ⟨tt, lkF [(17, i_CommandOK.fi), (99, i_reader_number.fi), (100, i_reader_counted.fi)], 42, 0, [], []⟩
def i_readCommand.out : (Int × Int × Int × ByteArray × ByteArray × Bool) → CRes := fun a => ⟨encL SV.enc [.agg [.int .i64, .int .i64, .int .i64, .str, .str], .one (.bool)] ((a.1, a.2.1, a.2.2.1, a.2.2.2.1, a.2.2.2.2.1, ()), a.2.2.2.2.2, ()), [encL SC.enc [] ()]⟩
def i_readCommand.ps : List PS := [.val [none]]
def i_readCommand.sA : List SA := [.v (.one (.str))]
def i_readCommand.fi : FI := FIs i_readCommand.sA (Int × Int × Int × ByteArray × ByteArray × Bool) (fun t => i_readCommand t.1) i_readCommand.out i_readCommand.ps
theorem i_readCommand.hok (hE : EOk Try.prog (i_readCommand.E)) : HintOk Try.prog i_readCommand.E (bodyOf Try.f50) (.a) := HintOk.n1 (Q := True) (by kernel_rfl) trivial
theorem i_readCommand.hE : EOk Try.prog (i_readCommand.E) := EOk.of ttOk (⟨i_CommandOK.fok, ⟨i_reader_number.fok, ⟨i_reader_counted.fok, trivial⟩⟩⟩)
theorem i_readCommand.fok : FOk Try.prog 50 i_readCommand.fi :=
  fokS (E := i_readCommand.E) (wy := ⟨[[none, none, none, none, none], [none]], [[]], []⟩) (h := (fun gs => .a)) (G := fun t g => i_readCommand.F (fun y0 y1 y2 y3 y4 y5 => g (y0, y1, y2, y3, y4, y5)) t.1) (by kernel_rfl) i_readCommand.hE Try.func50 (by kernel_rfl) rfl (Nat.le_refl _) (fun t => HintOk.n1 (by kernel_rfl) (i_readCommand.hok i_readCommand.hE)) (fun t g => i_readCommand_nat g t.1) (fun t => by kernel_rfl)
/-! loop.example_g00220_impl.ReadCommand -/
def i_ReadCommand.F {R : Type} (kk : Int → Int → Int → ByteArray → ByteArray → Int → Option R) (b : List Int) : Option R :=
  cond (decide ((List.length b : Int) > (65536 : Int))) (kk (0 : Int) (0 : Int) (0 : Int) ByteArray.empty ByteArray.empty (2 : Int)) (
    (i_readCommand (strL b)).bind fun r =>
    cond (!r.2.2.2.2.2) (kk (0 : Int) (0 : Int) (0 : Int) ByteArray.empty ByteArray.empty (3 : Int)) (kk r.1 r.2.1 r.2.2.1 r.2.2.2.1 r.2.2.2.2.1 (0 : Int)))
theorem i_ReadCommand.F_nat {R S : Type} (g : R → Option S) (kk : Int → Int → Int → ByteArray → ByteArray → Int → Option R) (b : List Int) : i_ReadCommand.F (fun y0 y1 y2 y3 y4 y5 => (kk y0 y1 y2 y3 y4 y5).bind g) b = (i_ReadCommand.F kk b).bind g := by
  simp only [i_ReadCommand.F, grd_bind, cnd_bind, bnd_bind, non_bind]
def i_ReadCommand (b : List Int) : Option (Int × Int × Int × ByteArray × ByteArray × Int) := i_ReadCommand.F (fun y0 y1 y2 y3 y4 y5 => some (y0, y1, y2, y3, y4, y5)) b
theorem i_ReadCommand_nat {S : Type} (g : (Int × Int × Int × ByteArray × ByteArray × Int) → Option S) (b : List Int) : i_ReadCommand.F (fun y0 y1 y2 y3 y4 y5 => g (y0, y1, y2, y3, y4, y5)) b = (i_ReadCommand b).bind g := i_ReadCommand.F_nat g (fun y0 y1 y2 y3 y4 y5 => some (y0, y1, y2, y3, y4, y5)) b
def i_ReadCommand.E : Env := ⟨tt, lkF [(50, i_readCommand.fi)], 20, 0, [], []⟩
def i_ReadCommand.out : (Int × Int × Int × ByteArray × ByteArray × Int) → CRes := fun a => ⟨encL SV.enc [.agg [.int .i64, .int .i64, .int .i64, .str, .str], .one (.int .i64)] ((a.1, a.2.1, a.2.2.1, a.2.2.2.1, a.2.2.2.2.1, ()), a.2.2.2.2.2, ()), [encL SC.enc [] ()]⟩
def i_ReadCommand.ps : List PS := [.val [some ((.int .u8), false)]]
def i_ReadCommand.sA : List SA := [.v (.one (.slv [] (.int .u8)))]
def i_ReadCommand.fi : FI := FIs i_ReadCommand.sA (Int × Int × Int × ByteArray × ByteArray × Int) (fun t => i_ReadCommand t.1) i_ReadCommand.out i_ReadCommand.ps
theorem i_ReadCommand.hok (hE : EOk Try.prog (i_ReadCommand.E)) : HintOk Try.prog i_ReadCommand.E (bodyOf Try.f12) (.a) := HintOk.n1 (Q := True) (by kernel_rfl) trivial
theorem i_ReadCommand.hE : EOk Try.prog (i_ReadCommand.E) := EOk.of ttOk (⟨i_readCommand.fok, trivial⟩)
theorem i_ReadCommand.fok : FOk Try.prog 12 i_ReadCommand.fi :=
  fokS (E := i_ReadCommand.E) (wy := ⟨[[none, none, none, none, none], [none]], [[]], []⟩) (h := (fun gs => .a)) (G := fun t g => i_ReadCommand.F (fun y0 y1 y2 y3 y4 y5 => g (y0, y1, y2, y3, y4, y5)) t.1) (by kernel_rfl) i_ReadCommand.hE Try.func12 (by kernel_rfl) rfl (Nat.le_refl _) (fun t => HintOk.n1 (by kernel_rfl) (i_ReadCommand.hok i_ReadCommand.hE)) (fun t g => i_ReadCommand_nat g t.1) (fun t => by kernel_rfl)
/-! __loop.example_g00220_spec.l00Src_.entry -/
def s_l00Src_entry.F {R : Type} (kk : Int → Int → ByteArray → List Int → Int → Int → Option R) (s_code : List Int) (s_at : Int) (s_seed : Int) : Option R :=
  (s_l00Src_next s_code s_at s_seed (4 : Int)).bind fun r =>
  (s_l00Src_command r.2.1 r.2.2.1 r.2.2.2).bind fun r1 =>
  (s_l02Bytes r1.1 r1.2.1 r1.2.2.1 r1.2.2.2.1 r1.2.2.2.2.1).bind fun r2 =>
  (s_l00Src_next r1.2.2.2.2.2.1 r1.2.2.2.2.2.2.1 r1.2.2.2.2.2.2.2 (6 : Int)).bind fun r3 =>
  cond (r3.1 == (0 : Int)) (kk (IntKind.wrap .i64 ((1 : Int) + r.1)) (0 : Int) ByteArray.empty r3.2.1 r3.2.2.1 r3.2.2.2) (
    cond (r3.1 == (1 : Int)) (
      (s_l00Src_pick r3.2.1 r3.2.2.1 r3.2.2.2 [(⟨#[0, 1, 2]⟩ : ByteArray), (⟨#[0, 1]⟩ : ByteArray), (⟨#[0, 1, 2, 3]⟩ : ByteArray), (⟨#[4]⟩ : ByteArray)]).bind fun r4 =>
      kk (IntKind.wrap .i64 ((1 : Int) + r.1)) (2 : Int) r4.1 r4.2.1 r4.2.2.1 r4.2.2.2) (kk (IntKind.wrap .i64 ((1 : Int) + r.1)) (1 : Int) (strL r2) r3.2.1 r3.2.2.1 r3.2.2.2))
theorem s_l00Src_entry.F_nat {R S : Type} (g : R → Option S) (kk : Int → Int → ByteArray → List Int → Int → Int → Option R) (s_code : List Int) (s_at : Int) (s_seed : Int) : s_l00Src_entry.F (fun y0 y1 y2 y3 y4 y5 => (kk y0 y1 y2 y3 y4 y5).bind g) s_code s_at s_seed = (s_l00Src_entry.F kk s_code s_at s_seed).bind g := by
  simp only [s_l00Src_entry.F, grd_bind, cnd_bind, bnd_bind, non_bind]
def s_l00Src_entry (s_code : List Int) (s_at : Int) (s_seed : Int) : Option (Int × Int × ByteArray × List Int × Int × Int) := s_l00Src_entry.F (fun y0 y1 y2 y3 y4 y5 => some (y0, y1, y2, y3, y4, y5)) s_code s_at s_seed
theorem s_l00Src_entry_nat {S : Type} (g : (Int × Int × ByteArray × List Int × Int × Int) → Option S) (s_code : List Int) (s_at : Int) (s_seed : Int) : s_l00Src_entry.F (fun y0 y1 y2 y3 y4 y5 => g (y0, y1, y2, y3, y4, y5)) s_code s_at s_seed = (s_l00Src_entry s_code s_at s_seed).bind g := s_l00Src_entry.F_nat g (fun y0 y1 y2 y3 y4 y5 => some (y0, y1, y2, y3, y4, y5)) s_code s_at s_seed
def s_l00Src_entry.E : Env := ⟨tt, lkF [(46, s_l00Src_command.fi), (49, s_l02Bytes.fi), (91, s_l00Src_next.fi), (101, s_l00Src_pick.fi)], 27, 1, [], []⟩
def s_l00Src_entry.out : (Int × Int × ByteArray × List Int × Int × Int) → CRes := fun a => ⟨encL SV.enc [.agg [.int .i64, .int .i64, .str]] ((a.1, a.2.1, a.2.2.1, ()), ()), [encL SC.enc [.slv [1] (.int .u8), .int .i64, .int .i64] (a.2.2.2.1, a.2.2.2.2.1, a.2.2.2.2.2, ())]⟩
def s_l00Src_entry.ps : List PS := [.ptr [some ((.int .u8), false), none, none]]
def s_l00Src_entry.sA : List SA := [.ptr [.slv [] (.int .u8), .int .i64, .int .i64]]
def s_l00Src_entry.fi : FI := FIs s_l00Src_entry.sA (Int × Int × ByteArray × List Int × Int × Int) (fun t => s_l00Src_entry t.1.1 t.1.2.1 t.1.2.2.1) s_l00Src_entry.out s_l00Src_entry.ps
theorem s_l00Src_entry.hok (hE : EOk Try.prog (s_l00Src_entry.E)) : HintOk Try.prog s_l00Src_entry.E (bodyOf Try.f51) (.a) := HintOk.n1 (Q := True) (by kernel_rfl) trivial
theorem s_l00Src_entry.hE : EOk Try.prog (s_l00Src_entry.E) := EOk.of ttOk (⟨s_l00Src_command.fok, ⟨s_l02Bytes.fok, ⟨s_l00Src_next.fok, ⟨s_l00Src_pick.fok, trivial⟩⟩⟩⟩)
theorem s_l00Src_entry.fok : FOk Try.prog 51 s_l00Src_entry.fi :=
  fokS (E := s_l00Src_entry.E) (wy := ⟨[[none, none, none]], [[some ((.int .u8), false), none, none]], []⟩) (h := (fun gs => .a)) (G := fun t g => s_l00Src_entry.F (fun y0 y1 y2 y3 y4 y5 => g (y0, y1, y2, y3, y4, y5)) t.1.1 t.1.2.1 t.1.2.2.1) (by kernel_rfl) s_l00Src_entry.hE Try.func51 (by kernel_rfl) rfl (Nat.le_refl _) (fun t => HintOk.n1 (by kernel_rfl) (s_l00Src_entry.hok s_l00Src_entry.hE)) (fun t g => s_l00Src_entry_nat g t.1.1 t.1.2.1 t.1.2.2.1) (fun t => by kernel_rfl)
/-! loop.example_g00220_spec.EntryOf -/
def s_EntryOf.F {R : Type} (kk : Int → Int → ByteArray → Option R) (code : List Int) : Option R :=
  (s_l00Source code).bind fun r =>
  (s_l00Src_entry r.1 r.2.1 r.2.2).bind fun r1 =>
  kk r1.1 r1.2.1 r1.2.2.1
theorem s_EntryOf.F_nat {R S : Type} (g : R → Option S) (kk : Int → Int → ByteArray → Option R) (code : List Int) : s_EntryOf.F (fun y0 y1 y2 => (kk y0 y1 y2).bind g) code = (s_EntryOf.F kk code).bind g := by
  simp only [s_EntryOf.F, grd_bind, cnd_bind, bnd_bind, non_bind]
def s_EntryOf (code : List Int) : Option (Int × Int × ByteArray) := s_EntryOf.F (fun y0 y1 y2 => some (y0, y1, y2)) code
theorem s_EntryOf_nat {S : Type} (g : (Int × Int × ByteArray) → Option S) (code : List Int) : s_EntryOf.F (fun y0 y1 y2 => g (y0, y1, y2)) code = (s_EntryOf code).bind g := s_EntryOf.F_nat g (fun y0 y1 y2 => some (y0, y1, y2)) code
def s_EntryOf.E : Env := ⟨tt, lkF [(45, s_l00Source.fi), (51, s_l00Src_entry.fi)], 6, 0, [], []⟩
def s_EntryOf.out : (Int × Int × ByteArray) → CRes := fun a => ⟨encL SV.enc [.agg [.int .i64, .int .i64, .str]] ((a.1, a.2.1, a.2.2, ()), ()), [encL SC.enc [] ()]⟩
def s_EntryOf.ps : List PS := [.val [some ((.int .u8), false)]]
def s_EntryOf.sA : List SA := [.v (.one (.slv [] (.int .u8)))]
def s_EntryOf.fi : FI := FIs s_EntryOf.sA (Int × Int × ByteArray) (fun t => s_EntryOf t.1) s_EntryOf.out s_EntryOf.ps
theorem s_EntryOf.hok (hE : EOk Try.prog (s_EntryOf.E)) : HintOk Try.prog s_EntryOf.E (bodyOf Try.f13) (.a) := HintOk.n1 (Q := True) (by kernel_rfl) trivial
theorem s_EntryOf.hE : EOk Try.prog (s_EntryOf.E) := EOk.of ttOk (⟨s_l00Source.fok, ⟨s_l00Src_entry.fok, trivial⟩⟩)
theorem s_EntryOf.fok : FOk Try.prog 13 s_EntryOf.fi :=
  fokS (E := s_EntryOf.E) (wy := ⟨[[none, none, none]], [[]], []⟩) (h := (fun gs => .a)) (G := fun t g => s_EntryOf.F (fun y0 y1 y2 => g (y0, y1, y2)) t.1) (by kernel_rfl) s_EntryOf.hE Try.func13 (by kernel_rfl) rfl (Nat.le_refl _) (fun t => HintOk.n1 (by kernel_rfl) (s_EntryOf.hok s_EntryOf.hE)) (fun t g => s_EntryOf_nat g t.1) (fun t => by kernel_rfl)
/-! slices.IndexFunc___int_int_ -/
def slices_IndexFunc_SLint_int.l1 {R : Type} (f : ((Int × Unit) → Option (Bool × Unit))) (kke0 : Option R) (kkr : Int → Option R) : Nat → List Int → Int → Int → Option R
  | 0, _, _, _ => none
  | n + 1, s, i, i1 =>
    cond (decide (i1 < i)) (
      grd (gIx i1 (List.length s)) <|
      (f (rdE (.int .i64 : Kd) s (Int.toNat i1), ())).bind fun r =>
      cond (r.1) (kkr i1) (slices_IndexFunc_SLint_int.l1 f kke0 kkr n s i (IntKind.wrap .i64 (i1 + (1 : Int))))) (kke0)
theorem slices_IndexFunc_SLint_int.l1_nat {R S : Type} (g : R → Option S) (f : ((Int × Unit) → Option (Bool × Unit))) (kke0 : Option R) (kkr : Int → Option R) : ∀ (n : Nat) (s : List Int) (i : Int) (i1 : Int), slices_IndexFunc_SLint_int.l1 f (kke0.bind g) (fun y0 => (kkr y0).bind g) n s i i1 = (slices_IndexFunc_SLint_int.l1 f kke0 kkr n s i i1).bind g := by
  intro n
  induction n with
  | zero => intros; rfl
  | succ n ih => intros; simp only [slices_IndexFunc_SLint_int.l1, grd_bind, cnd_bind, bnd_bind, non_bind, ih]
def slices_IndexFunc_SLint_int.F {R : Type} (kk : Int → Option R) (s : List Int) (f : ((Int × Unit) → Option (Bool × Unit))) : Option R :=
  slices_IndexFunc_SLint_int.l1 f (kk (-1 : Int)) (fun i => kk i) fuel s (List.length s : Int) (0 : Int)
theorem slices_IndexFunc_SLint_int.F_nat {R S : Type} (g : R → Option S) (kk : Int → Option R) (s : List Int) (f : ((Int × Unit) → Option (Bool × Unit))) : slices_IndexFunc_SLint_int.F (fun y0 => (kk y0).bind g) s f = (slices_IndexFunc_SLint_int.F kk s f).bind g := by
  simp only [slices_IndexFunc_SLint_int.F, grd_bind, cnd_bind, bnd_bind, non_bind, ← slices_IndexFunc_SLint_int.l1_nat]
def slices_IndexFunc_SLint_int (s : List Int) (f : ((Int × Unit) → Option (Bool × Unit))) : Option Int := slices_IndexFunc_SLint_int.F (fun y0 => some y0) s f
theorem slices_IndexFunc_SLint_int_nat {S : Type} (g : Int → Option S) (s : List Int) (f : ((Int × Unit) → Option (Bool × Unit))) : slices_IndexFunc_SLint_int.F (fun y0 => g y0) s f = (slices_IndexFunc_SLint_int s f).bind g := slices_IndexFunc_SLint_int.F_nat g (fun y0 => some y0) s f
def slices_IndexFunc_SLint_int.E : Env := ⟨tt, lkF [], 19, 0, [], []⟩
def slices_IndexFunc_SLint_int.sh1 : SK := ⟨[.v (.one (.slv [1] (.int .i64))), .v (.one (.fv 0)), .v (.one (.int .i64)), .v (.one (.int .i64))], []⟩
def slices_IndexFunc_SLint_int.sh1e0 : SK := ⟨[], []⟩
def slices_IndexFunc_SLint_int.sh1r : SK := ⟨[.v (.one (.int .i64))], []⟩
def slices_IndexFunc_SLint_int.ko1 : Ex → List CastAt × List Nat
  | .nrm => ([], [])
  | .ret => ([], [4])
  | .ext i => cond (Nat.beq i 0) ([], []) ([], [])
def slices_IndexFunc_SLint_int.G1 (f : ((Int × Unit) → Option (Bool × Unit))) (n : Nat) (R : Type) (t : slices_IndexFunc_SLint_int.sh1.T) (K : Ex → Kp → Option R) : Option R := slices_IndexFunc_SLint_int.l1 f (K (.ext 0) (SK.enc slices_IndexFunc_SLint_int.sh1e0 ((), ()))) (fun y0 => K .ret (SK.enc slices_IndexFunc_SLint_int.sh1r ((y0, ()), ()))) n t.1.1 t.1.2.2.1 t.1.2.2.2.1
def slices_IndexFunc_SLint_int.S1 (f : ((Int × Unit) → Option (Bool × Unit))) : Sum := ⟨([], [0, 1, 7, 8]), sumF slices_IndexFunc_SLint_int.sh1 (slices_IndexFunc_SLint_int.G1 f fuel), slices_IndexFunc_SLint_int.ko1⟩
theorem slices_IndexFunc_SLint_int.ok1 (f : ((Int × Unit) → Option (Bool × Unit))) (hE : EOk Try.prog (slices_IndexFunc_SLint_int.E)) : SumOk Try.prog { (slices_IndexFunc_SLint_int.E) with gv := [fnE [.one (.int .i64)] [.one (.bool)] f] } (cB (cR (cL (cR (bodyOf Try.f186))))) (slices_IndexFunc_SLint_int.S1 f) := by
  have hh : HintOk Try.prog { (slices_IndexFunc_SLint_int.E) with gv := [fnE [.one (.int .i64)] [.one (.bool)] f] } (cB (cB (cR (cL (cR (bodyOf Try.f186)))))) (.a) := HintOk.n1 (Q := True) (by kernel_rfl) trivial
  have h := loopS (kin := ([], [0, 1, 7, 8])) (kout := slices_IndexFunc_SLint_int.ko1) (sh := slices_IndexFunc_SLint_int.sh1) (F := slices_IndexFunc_SLint_int.G1 f) (ops_ok (hE.gv _)) (by kernel_rfl) hh (fun _ _ _ => rfl) (fun n R t K => by kernel_rfl) fuel
  exact HintOk.n1 (c := (cB (cR (cL (cR (bodyOf Try.f186)))))) (h := .s (slices_IndexFunc_SLint_int.S1 f)) (P := Try.prog) (E := { (slices_IndexFunc_SLint_int.E) with gv := [fnE [.one (.int .i64)] [.one (.bool)] f] }) (by kernel_rfl) h
def slices_IndexFunc_SLint_int.out : Int → CRes := fun a => ⟨encL SV.enc [.one (.int .i64)] (a, ()), [encL SC.enc [] (), encL SC.enc [] ()]⟩
def slices_IndexFunc_SLint_int.ps : List PS := [.val [some ((.int .i64), false)], .fn [.one (.bool)]]
def slices_IndexFunc_SLint_int.sA : List SA := [.v (.one (.slv [] (.int .i64))), .fn [.one (.int .i64)] [.one (.bool)]]
def slices_IndexFunc_SLint_int.fi : FI := FIs slices_IndexFunc_SLint_int.sA (Int) (fun t => slices_IndexFunc_SLint_int t.1 t.2.1) slices_IndexFunc_SLint_int.out slices_IndexFunc_SLint_int.ps
theorem slices_IndexFunc_SLint_int.hok (f : ((Int × Unit) → Option (Bool × Unit))) (hE : EOk Try.prog (slices_IndexFunc_SLint_int.E)) : HintOk Try.prog { (slices_IndexFunc_SLint_int.E) with gv := [fnE [.one (.int .i64)] [.one (.bool)] f] } (bodyOf Try.f186) (.n (.a) (.n (.n (.a) (.b (.s (slices_IndexFunc_SLint_int.S1 f)))) (.a))) := HintOk.n1 (Q := (True) ∧ (((True) ∧ (SumOk Try.prog { (slices_IndexFunc_SLint_int.E) with gv := [fnE [.one (.int .i64)] [.one (.bool)] f] } (cB (cR (cL (cR (bodyOf Try.f186))))) (slices_IndexFunc_SLint_int.S1 f))) ∧ (True))) (by kernel_rfl) ⟨trivial, ⟨⟨trivial, (slices_IndexFunc_SLint_int.ok1 f hE)⟩, trivial⟩⟩
theorem slices_IndexFunc_SLint_int.hE : EOk Try.prog (slices_IndexFunc_SLint_int.E) := EOk.of ttOk (trivial)
theorem slices_IndexFunc_SLint_int.fok : FOk Try.prog 186 slices_IndexFunc_SLint_int.fi :=
  fokS (E := slices_IndexFunc_SLint_int.E) (wy := ⟨[[none]], [[], []], []⟩) (h := (fun gs => let f := fnP [.one (.int .i64)] [.one (.bool)] (gN 0 gs); .n (.a) (.n (.n (.a) (.b (.s (slices_IndexFunc_SLint_int.S1 f)))) (.a)))) (G := fun t g => slices_IndexFunc_SLint_int.F (fun y0 => g y0) t.1 t.2.1) (by kernel_rfl) slices_IndexFunc_SLint_int.hE Try.func186 (by kernel_rfl) rfl (Nat.le_refl _) (fun t => HintOk.n1 (by kernel_rfl) (slices_IndexFunc_SLint_int.hok t.2.1 slices_IndexFunc_SLint_int.hE)) (fun t g => slices_IndexFunc_SLint_int_nat g t.1 t.2.1) (fun t => by kernel_rfl)
/-! slices.ContainsFunc___int_int_ -/
def slices_ContainsFunc_SLint_int.F {R : Type} (kk : Bool → Option R) (s : List Int) (f : ((Int × Unit) → Option (Bool × Unit))) : Option R :=
  (slices_IndexFunc_SLint_int s f).bind fun r =>
  kk (decide (r ≥ (0 : Int)))
theorem slices_ContainsFunc_SLint_int.F_nat {R S : Type} (g : R → Option S) (kk : Bool → Option R) (s : List Int) (f : ((Int × Unit) → Option (Bool × Unit))) : slices_ContainsFunc_SLint_int.F (fun y0 => (kk y0).bind g) s f = (slices_ContainsFunc_SLint_int.F kk s f).bind g := by
  simp only [slices_ContainsFunc_SLint_int.F, grd_bind, cnd_bind, bnd_bind, non_bind]
def slices_ContainsFunc_SLint_int (s : List Int) (f : ((Int × Unit) → Option (Bool × Unit))) : Option Bool := slices_ContainsFunc_SLint_int.F (fun y0 => some y0) s f
theorem slices_ContainsFunc_SLint_int_nat {S : Type} (g : Bool → Option S) (s : List Int) (f : ((Int × Unit) → Option (Bool × Unit))) : slices_ContainsFunc_SLint_int.F (fun y0 => g y0) s f = (slices_ContainsFunc_SLint_int s f).bind g := slices_ContainsFunc_SLint_int.F_nat g (fun y0 => some y0) s f
def slices_ContainsFunc_SLint_int.E : Env := ⟨tt, lkF [(186, slices_IndexFunc_SLint_int.fi)], 9, 0, [], []⟩
def slices_ContainsFunc_SLint_int.out : Bool → CRes := fun a => ⟨encL SV.enc [.one (.bool)] (a, ()), [encL SC.enc [] (), encL SC.enc [] ()]⟩
def slices_ContainsFunc_SLint_int.ps : List PS := [.val [some ((.int .i64), false)], .fn [.one (.bool)]]
def slices_ContainsFunc_SLint_int.sA : List SA := [.v (.one (.slv [] (.int .i64))), .fn [.one (.int .i64)] [.one (.bool)]]
def slices_ContainsFunc_SLint_int.fi : FI := FIs slices_ContainsFunc_SLint_int.sA (Bool) (fun t => slices_ContainsFunc_SLint_int t.1 t.2.1) slices_ContainsFunc_SLint_int.out slices_ContainsFunc_SLint_int.ps
theorem slices_ContainsFunc_SLint_int.hok (f : ((Int × Unit) → Option (Bool × Unit))) (hE : EOk Try.prog (slices_ContainsFunc_SLint_int.E)) : HintOk Try.prog { (slices_ContainsFunc_SLint_int.E) with gv := [fnE [.one (.int .i64)] [.one (.bool)] f] } (bodyOf Try.f181) (.a) := HintOk.n1 (Q := True) (by kernel_rfl) trivial
theorem slices_ContainsFunc_SLint_int.hE : EOk Try.prog (slices_ContainsFunc_SLint_int.E) := EOk.of ttOk (⟨slices_IndexFunc_SLint_int.fok, trivial⟩)
theorem slices_ContainsFunc_SLint_int.fok : FOk Try.prog 181 slices_ContainsFunc_SLint_int.fi :=
  fokS (E := slices_ContainsFunc_SLint_int.E) (wy := ⟨[[none]], [[], []], []⟩) (h := (fun gs => let f := fnP [.one (.int .i64)] [.one (.bool)] (gN 0 gs); .a)) (G := fun t g => slices_ContainsFunc_SLint_int.F (fun y0 => g y0) t.1 t.2.1) (by kernel_rfl) slices_ContainsFunc_SLint_int.hE Try.func181 (by kernel_rfl) rfl (Nat.le_refl _) (fun t => HintOk.n1 (by kernel_rfl) (slices_ContainsFunc_SLint_int.hok t.2.1 slices_ContainsFunc_SLint_int.hE)) (fun t g => slices_ContainsFunc_SLint_int_nat g t.1 t.2.1) (fun t => by kernel_rfl)
/-! loop.example_g00220_impl.areNumbers$1 -/
def i_areNumbers_1.F {R : Type} (kk : Bool → Option R) (n_ : Int) : Option R :=
  (i_within n_ (0 : Int) (6 : Int)).bind fun r =>
  kk !r
theorem i_areNumbers_1.F_nat {R S : Type} (g : R → Option S) (kk : Bool → Option R) (n_ : Int) : i_areNumbers_1.F (fun y0 => (kk y0).bind g) n_ = (i_areNumbers_1.F kk n_).bind g := by
  simp only [i_areNumbers_1.F, grd_bind, cnd_bind, bnd_bind, non_bind]
def i_areNumbers_1 (n_ : Int) : Option Bool := i_areNumbers_1.F (fun y0 => some y0) n_
theorem i_areNumbers_1_nat {S : Type} (g : Bool → Option S) (n_ : Int) : i_areNumbers_1.F (fun y0 => g y0) n_ = (i_areNumbers_1 n_).bind g := i_areNumbers_1.F_nat g (fun y0 => some y0) n_
def i_areNumbers_1.E : Env := ⟨tt, lkF [(79, i_within.fi)], 6, 0, [], []⟩
def i_areNumbers_1.out : Bool → CRes := fun a => ⟨encL SV.enc [.one (.bool)] (a, ()), [encL SC.enc [] ()]⟩
def i_areNumbers_1.ps : List PS := [.val [none]]
def i_areNumbers_1.sA : List SA := [.v (.one (.int .i64))]
def i_areNumbers_1.fi : FI := FIs i_areNumbers_1.sA (Bool) (fun t => i_areNumbers_1 t.1) i_areNumbers_1.out i_areNumbers_1.ps
theorem i_areNumbers_1.hok (hE : EOk Try.prog (i_areNumbers_1.E)) : HintOk Try.prog i_areNumbers_1.E (bodyOf Try.f182) (.a) := HintOk.n1 (Q := True) (by kernel_rfl) trivial
theorem i_areNumbers_1.hE : EOk Try.prog (i_areNumbers_1.E) := EOk.of ttOk (⟨i_within.fok, trivial⟩)
theorem i_areNumbers_1.fok : FOk Try.prog 182 i_areNumbers_1.fi :=
  fokS (E := i_areNumbers_1.E) (wy := ⟨[[none]], [[]], []⟩) (h := (fun gs => .a)) (G := fun t g => i_areNumbers_1.F (fun y0 => g y0) t.1) (by kernel_rfl) i_areNumbers_1.hE Try.func182 (by kernel_rfl) rfl (Nat.le_refl _) (fun t => HintOk.n1 (by kernel_rfl) (i_areNumbers_1.hok i_areNumbers_1.hE)) (fun t g => i_areNumbers_1_nat g t.1) (fun t => by kernel_rfl)
/-! loop.example_g00220_impl.areNumbers -/
def i_areNumbers.F {R : Type} (kk : Bool → Option R) (list : List Int) : Option R :=
  (slices_ContainsFunc_SLint_int list (fun t => (i_areNumbers_1 t.1).bind fun a => some (a, ()))).bind fun r =>
  kk !r
theorem i_areNumbers.F_nat {R S : Type} (g : R → Option S) (kk : Bool → Option R) (list : List Int) : i_areNumbers.F (fun y0 => (kk y0).bind g) list = (i_areNumbers.F kk list).bind g := by
  simp only [i_areNumbers.F, grd_bind, cnd_bind, bnd_bind, non_bind]
def i_areNumbers (list : List Int) : Option Bool := i_areNumbers.F (fun y0 => some y0) list
theorem i_areNumbers_nat {S : Type} (g : Bool → Option S) (list : List Int) : i_areNumbers.F (fun y0 => g y0) list = (i_areNumbers list).bind g := i_areNumbers.F_nat g (fun y0 => some y0) list
def i_areNumbers.E : Env := ⟨tt, lkF [(181, slices_ContainsFunc_SLint_int.fi), (182, i_areNumbers_1.fi)], 6, 0, [], []⟩
def i_areNumbers.out : Bool → CRes := fun a => ⟨encL SV.enc [.one (.bool)] (a, ()), [encL SC.enc [] ()]⟩
def i_areNumbers.ps : List PS := [.val [some ((.int .i64), false)]]
def i_areNumbers.sA : List SA := [.v (.one (.slv [] (.int .i64)))]
def i_areNumbers.fi : FI := FIs i_areNumbers.sA (Bool) (fun t => i_areNumbers t.1) i_areNumbers.out i_areNumbers.ps
theorem i_areNumbers.hok (hE : EOk Try.prog (i_areNumbers.E)) : HintOk Try.prog i_areNumbers.E (bodyOf Try.f166) (.a) := HintOk.n1 (Q := True) (by kernel_rfl) trivial
theorem i_areNumbers.hE : EOk Try.prog (i_areNumbers.E) := EOk.of ttOk (⟨slices_ContainsFunc_SLint_int.fok, ⟨i_areNumbers_1.fok, trivial⟩⟩)
theorem i_areNumbers.fok : FOk Try.prog 166 i_areNumbers.fi :=
  fokS (E := i_areNumbers.E) (wy := ⟨[[none]], [[]], []⟩) (h := (fun gs => .a)) (G := fun t g => i_areNumbers.F (fun y0 => g y0) t.1) (by kernel_rfl) i_areNumbers.hE Try.func166 (by kernel_rfl) rfl (Nat.le_refl _) (fun t => HintOk.n1 (by kernel_rfl) (i_areNumbers.hok i_areNumbers.hE)) (fun t g => i_areNumbers_nat g t.1) (fun t => by kernel_rfl)
/-! loop.example_g00220_impl.areRising -/
def i_areRising.l1 {R : Type} (kke0 : Option R) (kkr : Bool → Option R) : Nat → List Int → Int → Option R
  | 0, _, _ => none
  | n + 1, list, i =>
    cond (decide (i < (List.length list : Int))) (
      grd (gIx (IntKind.wrap .i64 (i - (1 : Int))) (List.length list)) <|
      grd (gIx i (List.length list)) <|
      cond (decide ((rdE (.int .i64 : Kd) list (Int.toNat (IntKind.wrap .i64 (i - (1 : Int))))) ≥ (rdE (.int .i64 : Kd) list (Int.toNat i)))) (kkr false) (i_areRising.l1 kke0 kkr n list (IntKind.wrap .i64 (i + (1 : Int))))) (kke0)
theorem i_areRising.l1_nat {R S : Type} (g : R → Option S) (kke0 : Option R) (kkr : Bool → Option R) : ∀ (n : Nat) (list : List Int) (i : Int), i_areRising.l1 (kke0.bind g) (fun y0 => (kkr y0).bind g) n list i = (i_areRising.l1 kke0 kkr n list i).bind g := by
  intro n
  induction n with
  | zero => intros; rfl
  | succ n ih => intros; simp only [i_areRising.l1, grd_bind, cnd_bind, bnd_bind, non_bind, ih]
def i_areRising.F {R : Type} (kk : Bool → Option R) (list : List Int) : Option R :=
  i_areRising.l1 (kk true) (fun b => kk b) fuel list (1 : Int)
theorem i_areRising.F_nat {R S : Type} (g : R → Option S) (kk : Bool → Option R) (list : List Int) : i_areRising.F (fun y0 => (kk y0).bind g) list = (i_areRising.F kk list).bind g := by
  simp only [i_areRising.F, grd_bind, cnd_bind, bnd_bind, non_bind, ← i_areRising.l1_nat]
def i_areRising (list : List Int) : Option Bool := i_areRising.F (fun y0 => some y0) list
theorem i_areRising_nat {S : Type} (g : Bool → Option S) (list : List Int) : i_areRising.F (fun y0 => g y0) list = (i_areRising list).bind g := i_areRising.F_nat g (fun y0 => some y0) list
def i_areRising.E : Env := ⟨tt, lkF [], 20, 0, [], []⟩
def i_areRising.sh1 : SK := ⟨[.v (.one (.slv [1] (.int .i64))), .v (.one (.int .i64))], []⟩
def i_areRising.sh1e0 : SK := ⟨[], []⟩
def i_areRising.sh1r : SK := ⟨[.v (.one (.bool))], []⟩
def i_areRising.ko1 : Ex → List CastAt × List Nat
  | .nrm => ([], [])
  | .ret => ([], [2])
  | .ext i => cond (Nat.beq i 0) ([], []) ([], [])
def i_areRising.G1 (n : Nat) (R : Type) (t : i_areRising.sh1.T) (K : Ex → Kp → Option R) : Option R := i_areRising.l1 (K (.ext 0) (SK.enc i_areRising.sh1e0 ((), ()))) (fun y0 => K .ret (SK.enc i_areRising.sh1r ((y0, ()), ()))) n t.1.1 t.1.2.1
def i_areRising.S1 : Sum := ⟨([], [0, 3]), sumF i_areRising.sh1 (i_areRising.G1 fuel), i_areRising.ko1⟩
theorem i_areRising.ok1 (hE : EOk Try.prog (i_areRising.E)) : SumOk Try.prog i_areRising.E (cB (cR (cL (cR (bodyOf Try.f167))))) (i_areRising.S1) := by
  have hh : HintOk Try.prog i_areRising.E (cB (cB (cR (cL (cR (bodyOf Try.f167)))))) (.a) := HintOk.n1 (Q := True) (by kernel_rfl) trivial
  have h := loopS (kin := ([], [0, 3])) (kout := i_areRising.ko1) (sh := i_areRising.sh1) (F := i_areRising.G1) (ops_ok (hE.gv _)) (by kernel_rfl) hh (fun _ _ _ => rfl) (fun n R t K => by kernel_rfl) fuel
  exact HintOk.n1 (c := (cB (cR (cL (cR (bodyOf Try.f167)))))) (h := .s (i_areRising.S1)) (P := Try.prog) (E := i_areRising.E) (by kernel_rfl) h
def i_areRising.out : Bool → CRes := fun a => ⟨encL SV.enc [.one (.bool)] (a, ()), [encL SC.enc [] ()]⟩
def i_areRising.ps : List PS := [.val [some ((.int .i64), false)]]
def i_areRising.sA : List SA := [.v (.one (.slv [] (.int .i64)))]
def i_areRising.fi : FI := FIs i_areRising.sA (Bool) (fun t => i_areRising t.1) i_areRising.out i_areRising.ps
theorem i_areRising.hok (hE : EOk Try.prog (i_areRising.E)) : HintOk Try.prog i_areRising.E (bodyOf Try.f167) (.n (.a) (.n (.n (.a) (.b (.s (i_areRising.S1)))) (.a))) := HintOk.n1 (Q := (True) ∧ (((True) ∧ (SumOk Try.prog i_areRising.E (cB (cR (cL (cR (bodyOf Try.f167))))) (i_areRising.S1))) ∧ (True))) (by kernel_rfl) ⟨trivial, ⟨⟨trivial, (i_areRising.ok1 hE)⟩, trivial⟩⟩
theorem i_areRising.hE : EOk Try.prog (i_areRising.E) := EOk.of ttOk (trivial)
theorem i_areRising.fok : FOk Try.prog 167 i_areRising.fi :=
  fokS (E := i_areRising.E) (wy := ⟨[[none]], [[]], []⟩) (h := (fun gs => .n (.a) (.n (.n (.a) (.b (.s (i_areRising.S1)))) (.a)))) (G := fun t g => i_areRising.F (fun y0 => g y0) t.1) (by kernel_rfl) i_areRising.hE Try.func167 (by kernel_rfl) rfl (Nat.le_refl _) (fun t => HintOk.n1 (by kernel_rfl) (i_areRising.hok i_areRising.hE)) (fun t g => i_areRising_nat g t.1) (fun t => by kernel_rfl)
/-! loop.example_g00220_impl.membersOK -/
def i_membersOK.F {R : Type} (kk : Bool → Option R) (members : List Int) : Option R :=
  cond (decide ((List.length members : Int) > (0 : Int))) (
    (i_areNumbers members).bind fun r =>
    cond (r) (
      (i_areRising members).bind fun r1 =>
      kk r1) (kk false)) (kk false)
theorem i_membersOK.F_nat {R S : Type} (g : R → Option S) (kk : Bool → Option R) (members : List Int) : i_membersOK.F (fun y0 => (kk y0).bind g) members = (i_membersOK.F kk members).bind g := by
  simp only [i_membersOK.F, grd_bind, cnd_bind, bnd_bind, non_bind]
def i_membersOK (members : List Int) : Option Bool := i_membersOK.F (fun y0 => some y0) members
theorem i_membersOK_nat {S : Type} (g : Bool → Option S) (members : List Int) : i_membersOK.F (fun y0 => g y0) members = (i_membersOK members).bind g := i_membersOK.F_nat g (fun y0 => some y0) members
def i_membersOK.E : Env := ⟨tt, lkF [(166, i_areNumbers.fi), (167, i_areRising.fi)], 14, 0, [], []⟩
def i_membersOK.out : Bool → CRes := fun a => ⟨encL SV.enc [.one (.bool)] (a, ()), [encL SC.enc [] ()]⟩
def i_membersOK.ps : List PS := [.val [some ((.int .i64), false)]]
def i_membersOK.sA : List SA := [.v (.one (.slv [] (.int .i64)))]
def i_membersOK.fi : FI := FIs i_membersOK.sA (Bool) (fun t => i_membersOK t.1) i_membersOK.out i_membersOK.ps
theorem i_membersOK.hok (hE : EOk Try.prog (i_membersOK.E)) : HintOk Try.prog i_membersOK.E (bodyOf Try.f142) (.a) := HintOk.n1 (Q := True) (by kernel_rfl) trivial
theorem i_membersOK.hE : EOk Try.prog (i_membersOK.E) := EOk.of ttOk (⟨i_areNumbers.fok, ⟨i_areRising.fok, trivial⟩⟩)
theorem i_membersOK.fok : FOk Try.prog 142 i_membersOK.fi :=
  fokS (E := i_membersOK.E) (wy := ⟨[[none]], [[]], []⟩) (h := (fun gs => .a)) (G := fun t g => i_membersOK.F (fun y0 => g y0) t.1) (by kernel_rfl) i_membersOK.hE Try.func142 (by kernel_rfl) rfl (Nat.le_refl _) (fun t => HintOk.n1 (by kernel_rfl) (i_membersOK.hok i_membersOK.hE)) (fun t g => i_membersOK_nat g t.1) (fun t => by kernel_rfl)
/-! loop.example_g00220_impl.readMembers -/
def i_readMembers.l1 {R : Type} (kke0 : List Int → Option R) : Nat → ByteArray → Int → Int → List Int → Option R
  | 0, _, _, _, _ => none
  | n + 1, data, i, i1, out =>
    cond (decide (i1 < i)) (
      grd (gIx i1 (ByteArray.size data)) <|
      grd (gRm (((List.length out) + (List.length [IntKind.wrap .i64 (byteAt data i1)])) * 8)) <|
      i_readMembers.l1 kke0 n data i (IntKind.wrap .i64 (i1 + (1 : Int))) (out ++ [IntKind.wrap .i64 (byteAt data i1)])) (kke0 out)
theorem i_readMembers.l1_nat {R S : Type} (g : R → Option S) (kke0 : List Int → Option R) : ∀ (n : Nat) (data : ByteArray) (i : Int) (i1 : Int) (out : List Int), i_readMembers.l1 (fun y0 => (kke0 y0).bind g) n data i i1 out = (i_readMembers.l1 kke0 n data i i1 out).bind g := by
  intro n
  induction n with
  | zero => intros; rfl
  | succ n ih => intros; simp only [i_readMembers.l1, grd_bind, cnd_bind, bnd_bind, non_bind, ih]
def i_readMembers.F {R : Type} (kk : List Int → Bool → Option R) (data : ByteArray) : Option R :=
  i_readMembers.l1 (fun out =>
    (i_membersOK out).bind fun r =>
    kk out r) fuel data (ByteArray.size data : Int) (0 : Int) ([] : List Int)
theorem i_readMembers.F_nat {R S : Type} (g : R → Option S) (kk : List Int → Bool → Option R) (data : ByteArray) : i_readMembers.F (fun y0 y1 => (kk y0 y1).bind g) data = (i_readMembers.F kk data).bind g := by
  simp only [i_readMembers.F, grd_bind, cnd_bind, bnd_bind, non_bind, ← i_readMembers.l1_nat]
def i_readMembers (data : ByteArray) : Option (List Int × Bool) := i_readMembers.F (fun y0 y1 => some (y0, y1)) data
theorem i_readMembers_nat {S : Type} (g : (List Int × Bool) → Option S) (data : ByteArray) : i_readMembers.F (fun y0 y1 => g (y0, y1)) data = (i_readMembers data).bind g := i_readMembers.F_nat g (fun y0 y1 => some (y0, y1)) data
def i_readMembers.E : Env := ⟨tt, lkF [(142, i_membersOK.fi)], 23, 0, [], []⟩
def i_readMembers.sh1 : SK := ⟨[.v (.one (.str)), .v (.one (.slo 0)), .v (.one (.int .i64)), .v (.one (.int .i64))], [.arr (.int .i64) [] true]⟩
def i_readMembers.sh1e0 : SK := ⟨[.v (.one (.slo 0))], [.arr (.int .i64) [] true]⟩
def i_readMembers.ko1 : Ex → List CastAt × List Nat
  | .nrm => ([], [])
  | .ret => ([], [])
  | .ext i => cond (Nat.beq i 0) ([], [4]) ([], [])
def i_readMembers.G1 (n : Nat) (R : Type) (t : i_readMembers.sh1.T) (K : Ex → Kp → Option R) : Option R := i_readMembers.l1 (fun y0 => K (.ext 0) (SK.enc i_readMembers.sh1e0 (((), ()), (y0, ())))) n t.1.1 t.1.2.2.1 t.1.2.2.2.1 t.2.1
def i_readMembers.S1 : Sum := ⟨([], [0, 4, 8, 9]), sumF i_readMembers.sh1 (i_readMembers.G1 fuel), i_readMembers.ko1⟩
theorem i_readMembers.ok1 (hE : EOk Try.prog (i_readMembers.E)) : SumOk Try.prog i_readMembers.E (cB (cR (cL (cR (cR (bodyOf Try.f102)))))) (i_readMembers.S1) := by
  have hh : HintOk Try.prog i_readMembers.E (cB (cB (cR (cL (cR (cR (bodyOf Try.f102))))))) (.a) := HintOk.n1 (Q := True) (by kernel_rfl) trivial
  have h := loopS (kin := ([], [0, 4, 8, 9])) (kout := i_readMembers.ko1) (sh := i_readMembers.sh1) (F := i_readMembers.G1) (ops_ok (hE.gv _)) (by kernel_rfl) hh (fun _ _ _ => rfl) (fun n R t K => by kernel_rfl) fuel
  exact HintOk.n1 (c := (cB (cR (cL (cR (cR (bodyOf Try.f102))))))) (h := .s (i_readMembers.S1)) (P := Try.prog) (E := i_readMembers.E) (by kernel_rfl) h
def i_readMembers.out : (List Int × Bool) → CRes := fun a => ⟨encL SV.enc [.one (.own [] (.int .i64) true), .one (.bool)] (a.1, a.2, ()), [encL SC.enc [] ()]⟩
def i_readMembers.ps : List PS := [.val [none]]
def i_readMembers.sA : List SA := [.v (.one (.str))]
def i_readMembers.fi : FI := FIs i_readMembers.sA (List Int × Bool) (fun t => i_readMembers t.1) i_readMembers.out i_readMembers.ps
theorem i_readMembers.hok (hE : EOk Try.prog (i_readMembers.E)) : HintOk Try.prog i_readMembers.E (bodyOf Try.f102) (.n (.a) (.n (.a) (.n (.n (.a) (.b (.s (i_readMembers.S1)))) (.a)))) := HintOk.n1 (Q := (True) ∧ ((True) ∧ (((True) ∧ (SumOk Try.prog i_readMembers.E (cB (cR (cL (cR (cR (bodyOf Try.f102)))))) (i_readMembers.S1))) ∧ (True)))) (by kernel_rfl) ⟨trivial, ⟨trivial, ⟨⟨trivial, (i_readMembers.ok1 hE)⟩, trivial⟩⟩⟩
theorem i_readMembers.hE : EOk Try.prog (i_readMembers.E) := EOk.of ttOk (⟨i_membersOK.fok, trivial⟩)
theorem i_readMembers.fok : FOk Try.prog 102 i_readMembers.fi :=
  fokS (E := i_readMembers.E) (wy := ⟨[[some ((.int .i64), true)], [none]], [[]], []⟩) (h := (fun gs => .n (.a) (.n (.a) (.n (.n (.a) (.b (.s (i_readMembers.S1)))) (.a))))) (G := fun t g => i_readMembers.F (fun y0 y1 => g (y0, y1)) t.1) (by kernel_rfl) i_readMembers.hE Try.func102 (by kernel_rfl) rfl (Nat.le_refl _) (fun t => HintOk.n1 (by kernel_rfl) (i_readMembers.hok i_readMembers.hE)) (fun t g => i_readMembers_nat g t.1) (fun t => by kernel_rfl)
/-! loop.example_g00220_impl.entryOK -/
def i_entryOK.F {R : Type} (kk : Bool → Option R) (e_Term : Int) (e_Kind : Int) (e_Data : ByteArray) : Option R :=
  (i_within e_Term (1 : Int) (1000000 : Int)).bind fun r =>
  cond (!r) (kk false) (
    cond (e_Kind == (0 : Int)) (kk (sEq e_Data ByteArray.empty)) (
      cond (e_Kind == (1 : Int)) (
        (i_within (ByteArray.size e_Data : Int) (1 : Int) (100 : Int)).bind fun r1 =>
        kk r1) (
        cond (e_Kind == (2 : Int)) (
          (i_readMembers e_Data).bind fun r2 =>
          kk r2.2) (kk false))))
theorem i_entryOK.F_nat {R S : Type} (g : R → Option S) (kk : Bool → Option R) (e_Term : Int) (e_Kind : Int) (e_Data : ByteArray) : i_entryOK.F (fun y0 => (kk y0).bind g) e_Term e_Kind e_Data = (i_entryOK.F kk e_Term e_Kind e_Data).bind g := by
  simp only [i_entryOK.F, grd_bind, cnd_bind, bnd_bind, non_bind]
def i_entryOK (e_Term : Int) (e_Kind : Int) (e_Data : ByteArray) : Option Bool := i_entryOK.F (fun y0 => some y0) e_Term e_Kind e_Data
theorem i_entryOK_nat {S : Type} (g : Bool → Option S) (e_Term : Int) (e_Kind : Int) (e_Data : ByteArray) : i_entryOK.F (fun y0 => g y0) e_Term e_Kind e_Data = (i_entryOK e_Term e_Kind e_Data).bind g := i_entryOK.F_nat g (fun y0 => some y0) e_Term e_Kind e_Data
def i_entryOK.E : Env := ⟨tt, lkF [(79, i_within.fi), (102, i_readMembers.fi)], 31, 0, [], []⟩
def i_entryOK.out : Bool → CRes := fun a => ⟨encL SV.enc [.one (.bool)] (a, ()), [encL SC.enc [] ()]⟩
def i_entryOK.ps : List PS := [.val [none, none, none]]
def i_entryOK.sA : List SA := [.v (.agg [.int .i64, .int .i64, .str])]
def i_entryOK.fi : FI := FIs i_entryOK.sA (Bool) (fun t => i_entryOK t.1.1 t.1.2.1 t.1.2.2.1) i_entryOK.out i_entryOK.ps
theorem i_entryOK.hok (hE : EOk Try.prog (i_entryOK.E)) : HintOk Try.prog i_entryOK.E (bodyOf Try.f52) (.a) := HintOk.n1 (Q := True) (by kernel_rfl) trivial
theorem i_entryOK.hE : EOk Try.prog (i_entryOK.E) := EOk.of ttOk (⟨i_within.fok, ⟨i_readMembers.fok, trivial⟩⟩)
theorem i_entryOK.fok : FOk Try.prog 52 i_entryOK.fi :=
  fokS (E := i_entryOK.E) (wy := ⟨[[none]], [[]], []⟩) (h := (fun gs => .a)) (G := fun t g => i_entryOK.F (fun y0 => g y0) t.1.1 t.1.2.1 t.1.2.2.1) (by kernel_rfl) i_entryOK.hE Try.func52 (by kernel_rfl) rfl (Nat.le_refl _) (fun t => HintOk.n1 (by kernel_rfl) (i_entryOK.hok i_entryOK.hE)) (fun t g => i_entryOK_nat g t.1.1 t.1.2.1 t.1.2.2.1) (fun t => by kernel_rfl)
/-! _loop.example_g00220_impl.Entry_.bytes -/
def i_Entry_bytes.F {R : Type} (kk : ByteArray → Option R) (e_Term : Int) (e_Kind : Int) (e_Data : ByteArray) : Option R :=
  (i_number e_Term (4 : Int)).bind fun r =>
  (i_number e_Kind (1 : Int)).bind fun r1 =>
  grd (gCat r r1) <|
  (i_counted e_Data).bind fun r2 =>
  grd (gCat (r ++ r1) r2) <|
  kk ((r ++ r1) ++ r2)
theorem i_Entry_bytes.F_nat {R S : Type} (g : R → Option S) (kk : ByteArray → Option R) (e_Term : Int) (e_Kind : Int) (e_Data : ByteArray) : i_Entry_bytes.F (fun y0 => (kk y0).bind g) e_Term e_Kind e_Data = (i_Entry_bytes.F kk e_Term e_Kind e_Data).bind g := by
  simp only [i_Entry_bytes.F, grd_bind, cnd_bind, bnd_bind, non_bind]
def i_Entry_bytes (e_Term : Int) (e_Kind : Int) (e_Data : ByteArray) : Option ByteArray := i_Entry_bytes.F (fun y0 => some y0) e_Term e_Kind e_Data
theorem i_Entry_bytes_nat {S : Type} (g : ByteArray → Option S) (e_Term : Int) (e_Kind : Int) (e_Data : ByteArray) : i_Entry_bytes.F (fun y0 => g y0) e_Term e_Kind e_Data = (i_Entry_bytes e_Term e_Kind e_Data).bind g := i_Entry_bytes.F_nat g (fun y0 => some y0) e_Term e_Kind e_Data
def i_Entry_bytes.E : Env := ⟨tt, lkF [(95, i_number.fi), (96, i_counted.fi)], 14, 0, [], []⟩
def i_Entry_bytes.out : ByteArray → CRes := fun a => ⟨encL SV.enc [.one (.str)] (a, ()), [encL SC.enc [] ()]⟩
def i_Entry_bytes.ps : List PS := [.val [none, none, none]]
def i_Entry_bytes.sA : List SA := [.v (.agg [.int .i64, .int .i64, .str])]
def i_Entry_bytes.fi : FI := FIs i_Entry_bytes.sA (ByteArray) (fun t => i_Entry_bytes t.1.1 t.1.2.1 t.1.2.2.1) i_Entry_bytes.out i_Entry_bytes.ps
theorem i_Entry_bytes.hok (hE : EOk Try.prog (i_Entry_bytes.E)) : HintOk Try.prog i_Entry_bytes.E (bodyOf Try.f53) (.a) := HintOk.n1 (Q := True) (by kernel_rfl) trivial
theorem i_Entry_bytes.hE : EOk Try.prog (i_Entry_bytes.E) := EOk.of ttOk (⟨i_number.fok, ⟨i_counted.fok, trivial⟩⟩)
theorem i_Entry_bytes.fok : FOk Try.prog 53 i_Entry_bytes.fi :=
  fokS (E := i_Entry_bytes.E) (wy := ⟨[[none]], [[]], []⟩) (h := (fun gs => .a)) (G := fun t g => i_Entry_bytes.F (fun y0 => g y0) t.1.1 t.1.2.1 t.1.2.2.1) (by kernel_rfl) i_Entry_bytes.hE Try.func53 (by kernel_rfl) rfl (Nat.le_refl _) (fun t => HintOk.n1 (by kernel_rfl) (i_Entry_bytes.hok i_Entry_bytes.hE)) (fun t g => i_Entry_bytes_nat g t.1.1 t.1.2.1 t.1.2.2.1) (fun t => by kernel_rfl)
/-! loop.example_g00220_impl.EntryBytes -/
def i_EntryBytes.F {R : Type} (kk : List Int → Int → Option R) (e_Term : Int) (e_Kind : Int) (e_Data : ByteArray) : Option R :=
  (i_entryOK e_Term e_Kind e_Data).bind fun r =>
  cond (!r) (kk [] (1 : Int)) (
    (i_Entry_bytes e_Term e_Kind e_Data).bind fun r1 =>
    kk (bytesL r1) (0 : Int))
theorem i_EntryBytes.F_nat {R S : Type} (g : R → Option S) (kk : List Int → Int → Option R) (e_Term : Int) (e_Kind : Int) (e_Data : ByteArray) : i_EntryBytes.F (fun y0 y1 => (kk y0 y1).bind g) e_Term e_Kind e_Data = (i_EntryBytes.F kk e_Term e_Kind e_Data).bind g := by
  simp only [i_EntryBytes.F, grd_bind, cnd_bind, bnd_bind, non_bind]
def i_EntryBytes (e_Term : Int) (e_Kind : Int) (e_Data : ByteArray) : Option (List Int × Int) := i_EntryBytes.F (fun y0 y1 => some (y0, y1)) e_Term e_Kind e_Data
theorem i_EntryBytes_nat {S : Type} (g : (List Int × Int) → Option S) (e_Term : Int) (e_Kind : Int) (e_Data : ByteArray) : i_EntryBytes.F (fun y0 y1 => g (y0, y1)) e_Term e_Kind e_Data = (i_EntryBytes e_Term e_Kind e_Data).bind g := i_EntryBytes.F_nat g (fun y0 y1 => some (y0, y1)) e_Term e_Kind e_Data
def i_EntryBytes.E : Env := ⟨tt, lkF [(52, i_entryOK.fi), (53, i_Entry_bytes.fi)], 10, 0, [], []⟩
def i_EntryBytes.out : (List Int × Int) → CRes := fun a => ⟨encL SV.enc [.one (.own [] (.int .u8) true), .one (.int .i64)] (a.1, a.2, ()), [encL SC.enc [] ()]⟩
def i_EntryBytes.ps : List PS := [.val [none, none, none]]
def i_EntryBytes.sA : List SA := [.v (.agg [.int .i64, .int .i64, .str])]
def i_EntryBytes.fi : FI := FIs i_EntryBytes.sA (List Int × Int) (fun t => i_EntryBytes t.1.1 t.1.2.1 t.1.2.2.1) i_EntryBytes.out i_EntryBytes.ps
theorem i_EntryBytes.hok (hE : EOk Try.prog (i_EntryBytes.E)) : HintOk Try.prog i_EntryBytes.E (bodyOf Try.f14) (.a) := HintOk.n1 (Q := True) (by kernel_rfl) trivial
theorem i_EntryBytes.hE : EOk Try.prog (i_EntryBytes.E) := EOk.of ttOk (⟨i_entryOK.fok, ⟨i_Entry_bytes.fok, trivial⟩⟩)
theorem i_EntryBytes.fok : FOk Try.prog 14 i_EntryBytes.fi :=
  fokS (E := i_EntryBytes.E) (wy := ⟨[[some ((.int .u8), true)], [none]], [[]], []⟩) (h := (fun gs => .a)) (G := fun t g => i_EntryBytes.F (fun y0 y1 => g (y0, y1)) t.1.1 t.1.2.1 t.1.2.2.1) (by kernel_rfl) i_EntryBytes.hE Try.func14 (by kernel_rfl) rfl (Nat.le_refl _) (fun t => HintOk.n1 (by kernel_rfl) (i_EntryBytes.hok i_EntryBytes.hE)) (fun t g => i_EntryBytes_nat g t.1.1 t.1.2.1 t.1.2.2.1) (fun t => by kernel_rfl)
/-! loop.example_g00220_spec.l02Members -/
def s_l02Members.l1 {R : Type} (kke0 : List Int → Option R) (kkr : Bool → List Int → Option R) : Nat → ByteArray → Int → List Int → Option R
  | 0, _, _, _ => none
  | n + 1, data, i, out =>
    cond (decide (i < (ByteArray.size data : Int))) (
      grd (gIx i (ByteArray.size data)) <|
      (s_l01In (IntKind.wrap .i64 (byteAt data i)) (0 : Int) (6 : Int)).bind fun r =>
      cond (!r) (kkr false ([] : List Int)) (
        cond (decide (i > (0 : Int))) (
          grd (gIx (IntKind.wrap .i64 (i - (1 : Int))) (ByteArray.size data)) <|
          grd (gIx i (ByteArray.size data)) <|
          cond (decide ((byteAt data (IntKind.wrap .i64 (i - (1 : Int)))) ≥ (byteAt data i))) (kkr false ([] : List Int)) (
            grd (gIx i (ByteArray.size data)) <|
            grd (gRm (((List.length out) + (List.length [IntKind.wrap .i64 (byteAt data i)])) * 8)) <|
            s_l02Members.l1 kke0 kkr n data (IntKind.wrap .i64 (i + (1 : Int))) (out ++ [IntKind.wrap .i64 (byteAt data i)]))) (
          grd (gIx i (ByteArray.size data)) <|
          grd (gRm (((List.length out) + (List.length [IntKind.wrap .i64 (byteAt data i)])) * 8)) <|
          s_l02Members.l1 kke0 kkr n data (IntKind.wrap .i64 (i + (1 : Int))) (out ++ [IntKind.wrap .i64 (byteAt data i)])))) (kke0 out)
theorem s_l02Members.l1_nat {R S : Type} (g : R → Option S) (kke0 : List Int → Option R) (kkr : Bool → List Int → Option R) : ∀ (n : Nat) (data : ByteArray) (i : Int) (out : List Int), s_l02Members.l1 (fun y0 => (kke0 y0).bind g) (fun y0 y1 => (kkr y0 y1).bind g) n data i out = (s_l02Members.l1 kke0 kkr n data i out).bind g := by
  intro n
  induction n with
  | zero => intros; rfl
  | succ n ih => intros; simp only [s_l02Members.l1, grd_bind, cnd_bind, bnd_bind, non_bind, ih]
def s_l02Members.F {R : Type} (kk : List Int → Bool → Option R) (data : ByteArray) : Option R :=
  s_l02Members.l1 (fun out => kk out (decide ((List.length out : Int) > (0 : Int)))) (fun b l => kk l b) fuel data (0 : Int) ([] : List Int)
theorem s_l02Members.F_nat {R S : Type} (g : R → Option S) (kk : List Int → Bool → Option R) (data : ByteArray) : s_l02Members.F (fun y0 y1 => (kk y0 y1).bind g) data = (s_l02Members.F kk data).bind g := by
  simp only [s_l02Members.F, grd_bind, cnd_bind, bnd_bind, non_bind, ← s_l02Members.l1_nat]
def s_l02Members (data : ByteArray) : Option (List Int × Bool) := s_l02Members.F (fun y0 y1 => some (y0, y1)) data
theorem s_l02Members_nat {S : Type} (g : (List Int × Bool) → Option S) (data : ByteArray) : s_l02Members.F (fun y0 y1 => g (y0, y1)) data = (s_l02Members data).bind g := s_l02Members.F_nat g (fun y0 y1 => some (y0, y1)) data
def s_l02Members.E : Env := ⟨tt, lkF [(69, s_l01In.fi)], 45, 0, [], []⟩
def s_l02Members.sh1 : SK := ⟨[.v (.one (.str)), .v (.one (.slo 0)), .v (.one (.int .i64))], [.arr (.int .i64) [] true]⟩
def s_l02Members.sh1e0 : SK := ⟨[.v (.one (.slo 0))], [.arr (.int .i64) [] true]⟩
def s_l02Members.sh1r : SK := ⟨[.v (.one (.slo 0)), .v (.one (.bool))], [.arr (.int .i64) [] true]⟩
def s_l02Members.ko1 : Ex → List CastAt × List Nat
  | .nrm => ([], [])
  | .ret => ([], [2, 3])
  | .ext i => cond (Nat.beq i 0) ([], [4]) ([], [])
def s_l02Members.G1 (n : Nat) (R : Type) (t : s_l02Members.sh1.T) (K : Ex → Kp → Option R) : Option R := s_l02Members.l1 (fun y0 => K (.ext 0) (SK.enc s_l02Members.sh1e0 (((), ()), (y0, ())))) (fun y0 y1 => K .ret (SK.enc s_l02Members.sh1r (((), y0, ()), (y1, ())))) n t.1.1 t.1.2.2.1 t.2.1
def s_l02Members.S1 : Sum := ⟨([], [0, 4, 5]), sumF s_l02Members.sh1 (s_l02Members.G1 fuel), s_l02Members.ko1⟩
theorem s_l02Members.ok1 (hE : EOk Try.prog (s_l02Members.E)) : SumOk Try.prog s_l02Members.E (cB (cR (cL (cR (cR (bodyOf Try.f103)))))) (s_l02Members.S1) := by
  have hh : HintOk Try.prog s_l02Members.E (cB (cB (cR (cL (cR (cR (bodyOf Try.f103))))))) (.a) := HintOk.n1 (Q := True) (by kernel_rfl) trivial
  have h := loopS (kin := ([], [0, 4, 5])) (kout := s_l02Members.ko1) (sh := s_l02Members.sh1) (F := s_l02Members.G1) (ops_ok (hE.gv _)) (by kernel_rfl) hh (fun _ _ _ => rfl) (fun n R t K => by kernel_rfl) fuel
  exact HintOk.n1 (c := (cB (cR (cL (cR (cR (bodyOf Try.f103))))))) (h := .s (s_l02Members.S1)) (P := Try.prog) (E := s_l02Members.E) (by kernel_rfl) h
def s_l02Members.out : (List Int × Bool) → CRes := fun a => ⟨encL SV.enc [.one (.own [] (.int .i64) true), .one (.bool)] (a.1, a.2, ()), [encL SC.enc [] ()]⟩
def s_l02Members.ps : List PS := [.val [none]]
def s_l02Members.sA : List SA := [.v (.one (.str))]
def s_l02Members.fi : FI := FIs s_l02Members.sA (List Int × Bool) (fun t => s_l02Members t.1) s_l02Members.out s_l02Members.ps
theorem s_l02Members.hok (hE : EOk Try.prog (s_l02Members.E)) : HintOk Try.prog s_l02Members.E (bodyOf Try.f103) (.n (.a) (.n (.a) (.n (.n (.a) (.b (.s (s_l02Members.S1)))) (.a)))) := HintOk.n1 (Q := (True) ∧ ((True) ∧ (((True) ∧ (SumOk Try.prog s_l02Members.E (cB (cR (cL (cR (cR (bodyOf Try.f103)))))) (s_l02Members.S1))) ∧ (True)))) (by kernel_rfl) ⟨trivial, ⟨trivial, ⟨⟨trivial, (s_l02Members.ok1 hE)⟩, trivial⟩⟩⟩
theorem s_l02Members.hE : EOk Try.prog (s_l02Members.E) := EOk.of ttOk (⟨s_l01In.fok, trivial⟩)
theorem s_l02Members.fok : FOk Try.prog 103 s_l02Members.fi :=
  fokS (E := s_l02Members.E) (wy := ⟨[[some ((.int .i64), true)], [none]], [[]], []⟩) (h := (fun gs => .n (.a) (.n (.a) (.n (.n (.a) (.b (.s (s_l02Members.S1)))) (.a))))) (G := fun t g => s_l02Members.F (fun y0 y1 => g (y0, y1)) t.1) (by kernel_rfl) s_l02Members.hE Try.func103 (by kernel_rfl) rfl (Nat.le_refl _) (fun t => HintOk.n1 (by kernel_rfl) (s_l02Members.hok s_l02Members.hE)) (fun t g => s_l02Members_nat g t.1) (fun t => by kernel_rfl)
/-! loop.example_g00220_spec.l02Entry -/
def s_l02Entry.F {R : Type} (kk : Bool → Option R) (e_Term : Int) (e_Kind : Int) (e_Data : ByteArray) : Option R :=
  (s_l01In e_Term (1 : Int) (1000000 : Int)).bind fun r =>
  cond (!r) (kk false) (
    cond (e_Kind == (0 : Int)) (kk (sEq e_Data ByteArray.empty)) (
      cond (e_Kind == (1 : Int)) (
        cond (decide ((ByteArray.size e_Data : Int) ≥ (1 : Int))) (kk (decide ((ByteArray.size e_Data : Int) ≤ (100 : Int)))) (kk false)) (
        cond (e_Kind == (2 : Int)) (
          (s_l02Members e_Data).bind fun r1 =>
          kk r1.2) (kk false))))
theorem s_l02Entry.F_nat {R S : Type} (g : R → Option S) (kk : Bool → Option R) (e_Term : Int) (e_Kind : Int) (e_Data : ByteArray) : s_l02Entry.F (fun y0 => (kk y0).bind g) e_Term e_Kind e_Data = (s_l02Entry.F kk e_Term e_Kind e_Data).bind g := by
  simp only [s_l02Entry.F, grd_bind, cnd_bind, bnd_bind, non_bind]
def s_l02Entry (e_Term : Int) (e_Kind : Int) (e_Data : ByteArray) : Option Bool := s_l02Entry.F (fun y0 => some y0) e_Term e_Kind e_Data
theorem s_l02Entry_nat {S : Type} (g : Bool → Option S) (e_Term : Int) (e_Kind : Int) (e_Data : ByteArray) : s_l02Entry.F (fun y0 => g y0) e_Term e_Kind e_Data = (s_l02Entry e_Term e_Kind e_Data).bind g := s_l02Entry.F_nat g (fun y0 => some y0) e_Term e_Kind e_Data
def s_l02Entry.E : Env := ⟨tt, lkF [(69, s_l01In.fi), (103, s_l02Members.fi)], 37, 0, [], []⟩
def s_l02Entry.out : Bool → CRes := fun a => ⟨encL SV.enc [.one (.bool)] (a, ()), [encL SC.enc [] ()]⟩
def s_l02Entry.ps : List PS := [.val [none, none, none]]
def s_l02Entry.sA : List SA := [.v (.agg [.int .i64, .int .i64, .str])]
def s_l02Entry.fi : FI := FIs s_l02Entry.sA (Bool) (fun t => s_l02Entry t.1.1 t.1.2.1 t.1.2.2.1) s_l02Entry.out s_l02Entry.ps
theorem s_l02Entry.hok (hE : EOk Try.prog (s_l02Entry.E)) : HintOk Try.prog s_l02Entry.E (bodyOf Try.f54) (.a) := HintOk.n1 (Q := True) (by kernel_rfl) trivial
theorem s_l02Entry.hE : EOk Try.prog (s_l02Entry.E) := EOk.of ttOk (⟨s_l01In.fok, ⟨s_l02Members.fok, trivial⟩⟩)
theorem s_l02Entry.fok : FOk Try.prog 54 s_l02Entry.fi :=
  fokS (E := s_l02Entry.E) (wy := ⟨[[none]], [[]], []⟩) (h := (fun gs => .a)) (G := fun t g => s_l02Entry.F (fun y0 => g y0) t.1.1 t.1.2.1 t.1.2.2.1) (by kernel_rfl) s_l02Entry.hE Try.func54 (by kernel_rfl) rfl (Nat.le_refl _) (fun t => HintOk.n1 (by kernel_rfl) (s_l02Entry.hok s_l02Entry.hE)) (fun t g => s_l02Entry_nat g t.1.1 t.1.2.1 t.1.2.2.1) (fun t => by kernel_rfl)
/-! loop.example_g00220_spec.l02Four -/
def s_l02Four.F {R : Type} (kk : List Int → Option R) (n_ : Int) : Option R :=
  grd (gSh (24 : Int)) <|
  grd (gSh (16 : Int)) <|
  grd (gSh (8 : Int)) <|
  kk [IntKind.wrap .u8 (iShr .i64 n_ (24 : Int)), IntKind.wrap .u8 (iShr .i64 n_ (16 : Int)), IntKind.wrap .u8 (iShr .i64 n_ (8 : Int)), IntKind.wrap .u8 n_]
theorem s_l02Four.F_nat {R S : Type} (g : R → Option S) (kk : List Int → Option R) (n_ : Int) : s_l02Four.F (fun y0 => (kk y0).bind g) n_ = (s_l02Four.F kk n_).bind g := by
  simp only [s_l02Four.F, grd_bind, cnd_bind, bnd_bind, non_bind]
def s_l02Four (n_ : Int) : Option (List Int) := s_l02Four.F (fun y0 => some y0) n_
theorem s_l02Four_nat {S : Type} (g : (List Int) → Option S) (n_ : Int) : s_l02Four.F (fun y0 => g y0) n_ = (s_l02Four n_).bind g := s_l02Four.F_nat g (fun y0 => some y0) n_
def s_l02Four.E : Env := ⟨tt, lkF [], 15, 0, [], []⟩
def s_l02Four.out : (List Int) → CRes := fun a => ⟨encL SV.enc [.one (.own [] (.int .u8) true)] (a, ()), [encL SC.enc [] ()]⟩
def s_l02Four.ps : List PS := [.val [none]]
def s_l02Four.sA : List SA := [.v (.one (.int .i64))]
def s_l02Four.fi : FI := FIs s_l02Four.sA (List Int) (fun t => s_l02Four t.1) s_l02Four.out s_l02Four.ps
theorem s_l02Four.hok (hE : EOk Try.prog (s_l02Four.E)) : HintOk Try.prog s_l02Four.E (bodyOf Try.f104) (.a) := HintOk.n1 (Q := True) (by kernel_rfl) trivial
theorem s_l02Four.hE : EOk Try.prog (s_l02Four.E) := EOk.of ttOk (trivial)
theorem s_l02Four.fok : FOk Try.prog 104 s_l02Four.fi :=
  fokS (E := s_l02Four.E) (wy := ⟨[[some ((.int .u8), true)]], [[]], []⟩) (h := (fun gs => .a)) (G := fun t g => s_l02Four.F (fun y0 => g y0) t.1) (by kernel_rfl) s_l02Four.hE Try.func104 (by kernel_rfl) rfl (Nat.le_refl _) (fun t => HintOk.n1 (by kernel_rfl) (s_l02Four.hok s_l02Four.hE)) (fun t g => s_l02Four_nat g t.1) (fun t => by kernel_rfl)
/-! loop.example_g00220_spec.l02EntryBytes -/
def s_l02EntryBytes.F {R : Type} (kk : List Int → Option R) (e_Term : Int) (e_Kind : Int) (e_Data : ByteArray) : Option R :=
  (s_l02Four e_Term).bind fun r =>
  grd (gRm (((List.length r) + (List.length [IntKind.wrap .u8 e_Kind, IntKind.wrap .u8 (ByteArray.size e_Data : Int)])) * 1)) <|
  grd (gRm (((List.length (r ++ [IntKind.wrap .u8 e_Kind, IntKind.wrap .u8 (ByteArray.size e_Data : Int)])) + (List.length (bytesL e_Data))) * 1)) <|
  kk ((r ++ [IntKind.wrap .u8 e_Kind, IntKind.wrap .u8 (ByteArray.size e_Data : Int)]) ++ (bytesL e_Data))
theorem s_l02EntryBytes.F_nat {R S : Type} (g : R → Option S) (kk : List Int → Option R) (e_Term : Int) (e_Kind : Int) (e_Data : ByteArray) : s_l02EntryBytes.F (fun y0 => (kk y0).bind g) e_Term e_Kind e_Data = (s_l02EntryBytes.F kk e_Term e_Kind e_Data).bind g := by
  simp only [s_l02EntryBytes.F, grd_bind, cnd_bind, bnd_bind, non_bind]
def s_l02EntryBytes (e_Term : Int) (e_Kind : Int) (e_Data : ByteArray) : Option (List Int) := s_l02EntryBytes.F (fun y0 => some y0) e_Term e_Kind e_Data
theorem s_l02EntryBytes_nat {S : Type} (g : (List Int) → Option S) (e_Term : Int) (e_Kind : Int) (e_Data : ByteArray) : s_l02EntryBytes.F (fun y0 => g y0) e_Term e_Kind e_Data = (s_l02EntryBytes e_Term e_Kind e_Data).bind g := s_l02EntryBytes.F_nat g (fun y0 => some y0) e_Term e_Kind e_Data
def s_l02EntryBytes.E : Env := ⟨tt, lkF [(104, s_l02Four.fi)], 20, 0, [], []⟩
def s_l02EntryBytes.out : (List Int) → CRes := fun a => ⟨encL SV.enc [.one (.own [] (.int .u8) true)] (a, ()), [encL SC.enc [] ()]⟩
def s_l02EntryBytes.ps : List PS := [.val [none, none, none]]
def s_l02EntryBytes.sA : List SA := [.v (.agg [.int .i64, .int .i64, .str])]
def s_l02EntryBytes.fi : FI := FIs s_l02EntryBytes.sA (List Int) (fun t => s_l02EntryBytes t.1.1 t.1.2.1 t.1.2.2.1) s_l02EntryBytes.out s_l02EntryBytes.ps
theorem s_l02EntryBytes.hok (hE : EOk Try.prog (s_l02EntryBytes.E)) : HintOk Try.prog s_l02EntryBytes.E (bodyOf Try.f55) (.a) := HintOk.n1 (Q := True) (by kernel_rfl) trivial
theorem s_l02EntryBytes.hE : EOk Try.prog (s_l02EntryBytes.E) := EOk.of ttOk (⟨s_l02Four.fok, trivial⟩)
theorem s_l02EntryBytes.fok : FOk Try.prog 55 s_l02EntryBytes.fi :=
  fokS (E := s_l02EntryBytes.E) (wy := ⟨[[some ((.int .u8), true)]], [[]], []⟩) (h := (fun gs => .a)) (G := fun t g => s_l02EntryBytes.F (fun y0 => g y0) t.1.1 t.1.2.1 t.1.2.2.1) (by kernel_rfl) s_l02EntryBytes.hE Try.func55 (by kernel_rfl) rfl (Nat.le_refl _) (fun t => HintOk.n1 (by kernel_rfl) (s_l02EntryBytes.hok s_l02EntryBytes.hE)) (fun t g => s_l02EntryBytes_nat g t.1.1 t.1.2.1 t.1.2.2.1) (fun t => by kernel_rfl)
/-! loop.example_g00220_spec.EntryBytes -/
def s_EntryBytes.F {R : Type} (kk : List Int → Int → Option R) (e_Term : Int) (e_Kind : Int) (e_Data : ByteArray) : Option R :=
  (s_l02Entry e_Term e_Kind e_Data).bind fun r =>
  cond (!r) (kk ([] : List Int) (1 : Int)) (
    (s_l02EntryBytes e_Term e_Kind e_Data).bind fun r1 =>
    kk r1 (0 : Int))
theorem s_EntryBytes.F_nat {R S : Type} (g : R → Option S) (kk : List Int → Int → Option R) (e_Term : Int) (e_Kind : Int) (e_Data : ByteArray) : s_EntryBytes.F (fun y0 y1 => (kk y0 y1).bind g) e_Term e_Kind e_Data = (s_EntryBytes.F kk e_Term e_Kind e_Data).bind g := by
  simp only [s_EntryBytes.F, grd_bind, cnd_bind, bnd_bind, non_bind]
def s_EntryBytes (e_Term : Int) (e_Kind : Int) (e_Data : ByteArray) : Option (List Int × Int) := s_EntryBytes.F (fun y0 y1 => some (y0, y1)) e_Term e_Kind e_Data
theorem s_EntryBytes_nat {S : Type} (g : (List Int × Int) → Option S) (e_Term : Int) (e_Kind : Int) (e_Data : ByteArray) : s_EntryBytes.F (fun y0 y1 => g (y0, y1)) e_Term e_Kind e_Data = (s_EntryBytes e_Term e_Kind e_Data).bind g := s_EntryBytes.F_nat g (fun y0 y1 => some (y0, y1)) e_Term e_Kind e_Data
def s_EntryBytes.E : Env := ⟨tt, lkF [(54, s_l02Entry.fi), (55, s_l02EntryBytes.fi)], 10, 0, [], []⟩
def s_EntryBytes.out : (List Int × Int) → CRes := fun a => ⟨encL SV.enc [.one (.own [] (.int .u8) true), .one (.int .i64)] (a.1, a.2, ()), [encL SC.enc [] ()]⟩
def s_EntryBytes.ps : List PS := [.val [none, none, none]]
def s_EntryBytes.sA : List SA := [.v (.agg [.int .i64, .int .i64, .str])]
def s_EntryBytes.fi : FI := FIs s_EntryBytes.sA (List Int × Int) (fun t => s_EntryBytes t.1.1 t.1.2.1 t.1.2.2.1) s_EntryBytes.out s_EntryBytes.ps
theorem s_EntryBytes.hok (hE : EOk Try.prog (s_EntryBytes.E)) : HintOk Try.prog s_EntryBytes.E (bodyOf Try.f15) (.a) := HintOk.n1 (Q := True) (by kernel_rfl) trivial
theorem s_EntryBytes.hE : EOk Try.prog (s_EntryBytes.E) := EOk.of ttOk (⟨s_l02Entry.fok, ⟨s_l02EntryBytes.fok, trivial⟩⟩)
theorem s_EntryBytes.fok : FOk Try.prog 15 s_EntryBytes.fi :=
  fokS (E := s_EntryBytes.E) (wy := ⟨[[some ((.int .u8), true)], [none]], [[]], []⟩) (h := (fun gs => .a)) (G := fun t g => s_EntryBytes.F (fun y0 y1 => g (y0, y1)) t.1.1 t.1.2.1 t.1.2.2.1) (by kernel_rfl) s_EntryBytes.hE Try.func15 (by kernel_rfl) rfl (Nat.le_refl _) (fun t => HintOk.n1 (by kernel_rfl) (s_EntryBytes.hok s_EntryBytes.hE)) (fun t g => s_EntryBytes_nat g t.1.1 t.1.2.1 t.1.2.2.1) (fun t => by kernel_rfl)
end
end Go.Proofs.YtdpjbeeokimnaaaA
