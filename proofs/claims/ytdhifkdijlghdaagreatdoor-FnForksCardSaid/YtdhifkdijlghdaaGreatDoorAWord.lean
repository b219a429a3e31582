/-
  Words for what is printed: guards, pieces of code, tables of contracts. No condition.
-/
import Derived.Test.YtdhifkdijlghdaaGreatDoorAShape
namespace Go.Proofs.YtdhifkdijlghdaaGreatDoorA
open Go
set_option linter.unusedVariables false
def grd {R : Type} (g : Bool) (x : Option R) : Option R := cond g x none
def gIx (i : Int) (n : Nat) : Bool := decide (0 ≤ i) && decide (i < n)
def gSl (l h : Int) (n : Nat) : Bool := decide (0 ≤ l) && decide (l ≤ h) && decide (h ≤ n)
def gCat (x y : ByteArray) : Bool := decide (x.size + y.size ≤ 9223372036854775807)
def gRm (n : Nat) : Bool := decide (n ≤ 140737488355328)
def gMk (l c : Int) (b : Nat) : Bool := decide (0 ≤ l) && decide (l ≤ c) && decide (c * b ≤ 140737488355328)
def gSh (y : Int) : Bool := decide (0 ≤ y)
def gNz (y : Int) : Bool := y != 0
theorem grd_bind {R S : Type} (b : Bool) (x : Option R) (g : R → Option S) : (grd b x).bind g = grd b (x.bind g) := by cases b <;> rfl
theorem cnd_bind {R S : Type} (b : Bool) (x y : Option R) (g : R → Option S) : (cond b x y).bind g = cond b (x.bind g) (y.bind g) := by cases b <;> rfl
theorem bnd_bind {A R S : Type} (x : Option A) (f : A → Option R) (g : R → Option S) : (x.bind f).bind g = x.bind fun a => (f a).bind g := by cases x <;> rfl
theorem non_bind {R S : Type} (g : R → Option S) : (none : Option R).bind g = none := rfl
theorem agree_self {R : Type} (x : Option R) : agree x x = x := by
 unfold agree
 rw [if_pos rfl]
def cL : Code → Code
 | .seq x _ => x
 | .cond _ x _ => x
 | c => c
def cR : Code → Code
 | .seq _ y => y
 | .cond _ _ y => y
 | c => c
def cB : Code → Code
 | .block _ x => x
 | .loop x => x
 | c => c
def bodyOf (f : Func) : Code := match f.body with
 | some c => c
 | none => .skip
def lkF : List (Nat × FI) → Nat → Option FI
 | [], _ => none
 | (u, i) :: r, f => cond (Nat.beq u f) (some i) (lkF r f)
def AllF (P : Program) : List (Nat × FI) → Prop
 | [] => True
 | (f, i) :: r => FOk P f i ∧ AllF P r
theorem AllF.lk {P : Program} : ∀ {l : List (Nat × FI)}, AllF P l → ∀ {f : Nat} {i : FI}, lkF l f = some i → FOk P f i
 | [], _, f, i, h => by simp [lkF] at h
 | (u, j) :: r, ha, f, i, h => by
  unfold lkF at h
  cases hb : Nat.beq u f with
  | true =>
   rw [hb] at h
   cases h
   have := Nat.eq_of_beq_eq_true hb
   subst this
   exact ha.1
  | false =>
   rw [hb] at h
   exact AllF.lk ha.2 h
theorem EOk.of {P : Program} {tt : List (Nat × TI)} {l : List (Nat × FI)} {nt ne : Nat} {gv : List GV} {mv fz : List Nat} (ht : TtOk P tt) (h : AllF P l) : EOk P ⟨tt, lkF l, nt, ne, gv, mv, fz⟩ := ⟨ht, fun _ _ hf => h.lk hf⟩
theorem EOk.gv {P : Program} {E : Env} (h : EOk P E) (gs : List GV) : EOk P { E with gv := gs } := ⟨h.tt, h.fi⟩
theorem HintOk.n1 {P : Program} {E : Env} {c : Code} {h : Hint} {Q : Prop} (e : HintOk P E c h = Q) (q : Q) : HintOk P E c h := e ▸ q
theorem fuel_ex : ∃ n : Nat, n = 18446744073709551616 := ⟨_, rfl⟩
noncomputable def fuel : Nat := Classical.choose fuel_ex
theorem fuel_eq : fuel = 18446744073709551616 := Classical.choose_spec fuel_ex
def gN (i : Nat) (gs : List GV) : GV := match gs[i]? with
 | some g => g
 | none => ⟨[], fun _ => none⟩
theorem FOk.zero {P : Program} {f : Nat} {A : Type} {sh : List SA} {F : TL SA.T sh → Option A} {out : A → CRes} {ps : List PS} (h : HasBody P f) (h0 : ∀ t, F t = none) : FOk P f (FIs sh A F out ps) := by
 refine ⟨h, fun args a ha => ?_⟩
 obtain ⟨t, h1, h2⟩ := Option.bind_eq_some_iff.1 ha
 rw [h0 t] at h2
 simp at h2
end Go.Proofs.YtdhifkdijlghdaaGreatDoorA
