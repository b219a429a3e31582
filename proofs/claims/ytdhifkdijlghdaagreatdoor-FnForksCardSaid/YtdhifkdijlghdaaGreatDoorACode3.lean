/-
  An operation of the small machine hangs on its operands and on the objects that it names alone. No condition.
-/
import Derived.Test.YtdhifkdijlghdaaGreatDoorACode2
namespace Go.Proofs.YtdhifkdijlghdaaGreatDoorA
open Go
set_option linter.unusedVariables false
set_option linter.unusedSimpArgs false
def Local {α : Type} (m : M α) : Prop := ∀ H H' x l, m H = some (x, l) → (∀ i, i ∈ l → H' i = H i) → m H' = some (x, l)
theorem Local.ret {α : Type} (a : α) : Local (M.ret a) := fun _ _ _ _ h _ => h
theorem Local.fail {α : Type} : Local (M.fail : M α) := fun _ _ _ _ h _ => h
theorem Local.get (id : Nat) : Local (M.get id) := by
 intro H H' x l h hl
 unfold M.get at h ⊢
 cases hi : H id with
 | none => rw [hi] at h; simp at h
 | some o =>
  rw [hi] at h
  cases h
  rw [hl id (by simp), hi]
theorem Local.bind {α β : Type} {m : M α} {f : α → M β} (hm : Local m) (hf : ∀ a, Local (f a)) : Local (M.bind m f) := by
 intro H H' x l h hl
 obtain ⟨a, l1, l2, h1, h2, rfl⟩ := M.bind_some h
 unfold M.bind
 rw [hm H H' a l1 h1 fun i hi => hl i (by simp [hi])]
 simp only
 rw [hf a H H' x l2 h2 fun i hi => hl i (by simp [hi])]
theorem Local.opt {α : Type} (x : Option α) : Local (M.opt x) := by cases x <;> first | exact Local.ret _ | exact Local.fail
theorem Local.done (g : Bool) (v : TV) (u : List (Nat × Ob)) (n : List Ob) : Local (done g v u n) := Local.ret _
theorem Local.getSl (ck : Option Kd) (c : C) : Local (getSl ck c) := by
 unfold Go.Proofs.YtdhifkdijlghdaaGreatDoorA.getSl
 repeat' first | exact Local.ret _ | exact Local.fail | exact Local.get _ | refine Local.bind ?_ fun _ => ?_ | split
theorem Local.pLoad (ti : TI) (c : C) : Local (pLoad ti c) := by
 unfold Go.Proofs.YtdhifkdijlghdaaGreatDoorA.pLoad
 repeat' first | exact Local.ret _ | exact Local.fail | exact Local.opt _ | exact Local.get _ | refine Local.bind ?_ fun _ => ?_ | split
theorem Local.pStore (ti : TI) (v : V1) (c : C) : Local (pStore ti v c) := by
 unfold Go.Proofs.YtdhifkdijlghdaaGreatDoorA.pStore
 repeat' first | exact Local.done _ _ _ _ | exact Local.fail | exact Local.get _ | refine Local.bind ?_ fun _ => ?_ | split
theorem Local.pBox (ti : TI) (nid : Nat) (v : V1) : Local (pBox ti nid v) := by
 unfold Go.Proofs.YtdhifkdijlghdaaGreatDoorA.pBox
 repeat' first | exact Local.done _ _ _ _ | exact Local.fail | split
theorem Local.pAlloc (E : Env) (t nid : Nat) : Local (pAlloc E t nid) := by
 unfold Go.Proofs.YtdhifkdijlghdaaGreatDoorA.pAlloc
 repeat' first | exact Local.done _ _ _ _ | exact Local.fail | split
theorem Local.pBuild (E : Env) (t : Nat) (ps : List (Nat × V1)) : Local (pBuild E t ps) := by
 unfold Go.Proofs.YtdhifkdijlghdaaGreatDoorA.pBuild
 repeat' first | exact Local.done _ _ _ _ | exact Local.fail | split
theorem Local.pBuildSlice (E : Env) (t n nid : Nat) (ps : List (Nat × V1)) : Local (pBuildSlice E t n nid ps) := by
 unfold Go.Proofs.YtdhifkdijlghdaaGreatDoorA.pBuildSlice
 repeat' first | exact Local.done _ _ _ _ | exact Local.fail | split
theorem Local.pMake (E : Env) (t nid : Nat) (l c : C) : Local (pMake E t nid l c) := by
 unfold Go.Proofs.YtdhifkdijlghdaaGreatDoorA.pMake
 repeat' first | exact Local.done _ _ _ _ | exact Local.fail | split
theorem Local.pSlice (E : Env) (mv : Bool) (t nid : Nat) (x : C) (lo hi mx : Option C) : Local (pSlice E mv t nid x lo hi mx) := by
 unfold Go.Proofs.YtdhifkdijlghdaaGreatDoorA.pSlice
 repeat' first | exact Local.done _ _ _ _ | exact Local.fail | exact Local.get _ | exact Local.getSl _ _ | refine Local.bind ?_ fun _ => ?_ | split | dsimp only
theorem Local.pIndexAddr (E : Env) (t : Nat) (x ix : C) : Local (pIndexAddr E t x ix) := by
 unfold Go.Proofs.YtdhifkdijlghdaaGreatDoorA.pIndexAddr
 repeat' first | exact Local.done _ _ _ _ | exact Local.fail | exact Local.get _ | exact Local.getSl _ _ | refine Local.bind ?_ fun _ => ?_ | split | dsimp only
theorem Local.pFieldAddr (E : Env) (t f : Nat) (x : C) : Local (pFieldAddr E t f x) := by
 unfold Go.Proofs.YtdhifkdijlghdaaGreatDoorA.pFieldAddr
 repeat' first | exact Local.done _ _ _ _ | exact Local.fail | split
theorem Local.pField (E : Env) (t f : Nat) (x : V1) : Local (pField E t f x) := by
 unfold Go.Proofs.YtdhifkdijlghdaaGreatDoorA.pField
 repeat' first | exact Local.done _ _ _ _ | exact Local.fail | split
theorem Local.pIndex (E : Env) (t : Nat) (x : V1) (ix : C) : Local (pIndex E t x ix) := by
 unfold Go.Proofs.YtdhifkdijlghdaaGreatDoorA.pIndex
 repeat' first | exact Local.done _ _ _ _ | exact Local.fail | split
theorem Local.pConvert (E : Env) (s d nid : Nat) (x : C) : Local (pConvert E s d nid x) := by
 unfold Go.Proofs.YtdhifkdijlghdaaGreatDoorA.pConvert
 repeat' first | exact Local.done _ _ _ _ | exact Local.fail | exact Local.getSl _ _ | refine Local.bind ?_ fun _ => ?_ | split
theorem Local.pLen (E : Env) (t : Nat) (x : V1) : Local (pLen E t x) := by
 unfold Go.Proofs.YtdhifkdijlghdaaGreatDoorA.pLen
 repeat' first | exact Local.done _ _ _ _ | exact Local.fail | exact Local.getSl _ _ | refine Local.bind ?_ fun _ => ?_ | split
theorem Local.pAppend (E : Env) (t t2 nid : Nat) (s x : C) : Local (pAppend E t t2 nid s x) := by
 unfold Go.Proofs.YtdhifkdijlghdaaGreatDoorA.pAppend
 repeat' first | exact Local.done _ _ _ _ | exact Local.ret _ | exact Local.fail | exact Local.get _ | exact Local.getSl _ _ | refine Local.bind ?_ fun _ => ?_ | split | dsimp only
theorem Local.exC (b : Bool) (ck : Option (Kd × Bool)) (c : C) : Local (exC b ck c) := by
 unfold Go.Proofs.YtdhifkdijlghdaaGreatDoorA.exC
 repeat' first | exact Local.ret _ | exact Local.fail | exact Local.get _ | refine Local.bind ?_ fun _ => ?_ | split
theorem Local.exCs (b : Bool) : ∀ (cs : List C) (cks : List (Option (Kd × Bool))), Local (exCs b cks cs)
 | [], _ => by unfold Go.Proofs.YtdhifkdijlghdaaGreatDoorA.exCs; exact Local.ret _
 | c :: cs, cks => by
  unfold Go.Proofs.YtdhifkdijlghdaaGreatDoorA.exCs
  exact Local.bind (Local.exC _ _ _) fun _ => Local.bind (Local.exCs b cs _) fun _ => Local.ret _
theorem Local.capArg (c : C) : Local (capArg c) := by
 unfold Go.Proofs.YtdhifkdijlghdaaGreatDoorA.capArg
 repeat' first | exact Local.ret _ | exact Local.fail | exact Local.get _ | exact Local.exC _ _ _ | exact Local.exCs _ _ _ | refine Local.bind ?_ fun _ => ?_ | split
theorem Local.capArgs : ∀ (cs : List C), Local (capArgs cs)
 | [] => Local.ret _
 | c :: cs => by
  unfold Go.Proofs.YtdhifkdijlghdaaGreatDoorA.capArgs
  exact Local.bind (Local.capArg c) fun _ => Local.bind (Local.capArgs cs) fun _ => Local.ret _
theorem Local.exArg (E : Env) (ps : PS) (x : TV) : Local (exArg E ps x) := by
 unfold Go.Proofs.YtdhifkdijlghdaaGreatDoorA.exArg
 repeat' first | exact Local.ret _ | exact Local.fail | exact Local.get _ | exact Local.exC _ _ _ | exact Local.exCs _ _ _ | exact Local.capArgs _ | refine Local.bind ?_ fun _ => ?_ | split
theorem Local.exArgs (E : Env) : ∀ (ps : List PS) (xs : List TV), Local (exArgs E ps xs)
 | [], [] => Local.ret _
 | p :: ps, x :: xs => by
  unfold Go.Proofs.YtdhifkdijlghdaaGreatDoorA.exArgs
  exact Local.bind (Local.exArg E p x) fun _ => Local.bind (Local.exArgs E ps xs) fun _ => Local.ret _
 | [], _ :: _ => Local.fail
 | _ :: _, [] => Local.fail
theorem Local.pCallF (E : Env) (nid f : Nat) (vs : List TV) (caps : List C) : Local (pCallF E nid f vs caps) := by
 unfold Go.Proofs.YtdhifkdijlghdaaGreatDoorA.pCallF
 repeat' first | exact Local.ret _ | exact Local.fail | exact Local.exArgs _ _ _ | refine Local.bind ?_ fun _ => ?_ | split
theorem Local.pCallV (E : Env) (nid : Nat) (c : C) (vs : List TV) : Local (pCallV E nid c vs) := by
 unfold Go.Proofs.YtdhifkdijlghdaaGreatDoorA.pCallV
 repeat' first | exact Local.ret _ | exact Local.fail | exact Local.get _ | exact Local.pCallF _ _ _ _ _ | refine Local.bind ?_ fun _ => ?_ | split
theorem Local.pre0 (E : Env) (o : Oper) (ρ : Operand → Option TV) (nid : Nat) : Local (pre0 E o ρ nid) := by
 unfold Go.Proofs.YtdhifkdijlghdaaGreatDoorA.pre0
 repeat' first
  | exact Local.ret _ | exact Local.done _ _ _ _ | exact Local.fail | exact Local.opt _ | exact Local.pLoad _ _ | exact Local.pStore _ _ _ | exact Local.pBox _ _ _ | exact Local.pAlloc _ _ _ | exact Local.pBuild _ _ _ | exact Local.pBuildSlice _ _ _ _ _
  | exact Local.pMake _ _ _ _ _ | exact Local.pSlice _ _ _ _ _ _ _ _ | exact Local.pIndexAddr _ _ _ _ | exact Local.pFieldAddr _ _ _ _ | exact Local.pField _ _ _ _ | exact Local.pIndex _ _ _ _ | exact Local.pConvert _ _ _ _ _
  | exact Local.pLen _ _ _ | exact Local.pAppend _ _ _ _ _ _ | exact Local.pCallV _ _ _ _ | refine Local.bind ?_ fun _ => ?_ | split
theorem Local.pre (E : Env) (o : Oper) (ρ : Operand → Option TV) (nid : Nat) : Local (pre E o ρ nid) := by
 unfold Go.Proofs.YtdhifkdijlghdaaGreatDoorA.pre
 cases frzD E o with
 | true => exact Local.bind (Local.pre0 E o ρ nid) fun _ => Local.ret _
 | false => exact Local.pre0 E o ρ nid
theorem partsO_congr {ρ ρ' : Operand → Option TV} : ∀ (ps : List (Nat × Operand)), (∀ p ∈ ps, ρ p.2 = ρ' p.2) → partsO ρ ps = partsO ρ' ps
 | [], _ => rfl
 | (i, x) :: r, h => by
  simp only [partsO]
  rw [h (i, x) (by simp), partsO_congr r fun p hp => h p (by simp [hp])]
theorem tvsO_congr {ρ ρ' : Operand → Option TV} : ∀ (ps : List Operand), (∀ p ∈ ps, ρ p = ρ' p) → tvsO ρ ps = tvsO ρ' ps
 | [], _ => rfl
 | x :: r, h => by
  simp only [tvsO]
  rw [h x (by simp), tvsO_congr r fun p hp => h p (by simp [hp])]
theorem onesO_congr {ρ ρ' : Operand → Option TV} : ∀ (ps : List Operand), (∀ p ∈ ps, ρ p = ρ' p) → onesO ρ ps = onesO ρ' ps
 | [], _ => rfl
 | x :: r, h => by
  simp only [onesO]
  rw [h x (by simp), onesO_congr r fun p hp => h p (by simp [hp])]
theorem oneO_congr {ρ ρ' : Operand → Option TV} : ∀ (x : Option Operand), (∀ p, x = some p → ρ p = ρ' p) → oneO ρ x = oneO ρ' x
 | none, _ => rfl
 | some x, h => by simp only [oneO]; rw [h x rfl]
theorem pre0_congr {E : Env} {o : Oper} {ρ ρ' : Operand → Option TV} (h : ∀ x, x ∈ o.op.operands → ρ x = ρ' x) (nid : Nat) : pre0 E o ρ nid = pre0 E o ρ' nid := by
 obtain ⟨dst, op, type, pos, after, guard⟩ := o
 simp only at h
 unfold pre0
 cases op <;> try rfl
 all_goals simp only [Op.operands] at h
 case move x => simp only; rw [h x (by simp)]
 case assign x => simp only; rw [h x (by simp)]
 case box t x => simp only; rw [h x (by simp)]
 case build t ps =>
  simp only
  rw [partsO_congr ps.toList fun p hp => h p.2 (by simp; exact ⟨p.1, by simpa using hp⟩)]
 case buildSlice t n ps =>
  simp only
  rw [partsO_congr ps.toList fun p hp => h p.2 (by simp; exact ⟨p.1, by simpa using hp⟩)]
 case load t x => simp only; rw [h x (by simp)]
 case store t x y => simp only; rw [h x (by simp), h y (by simp)]
 case nilCheck x => simp only; rw [h x (by simp)]
 case binOp op t x y yt => simp only; rw [h x (by simp), h y (by simp)]
 case unOp op t x => simp only; rw [h x (by simp)]
 case convert s d x => simp only; rw [h x (by simp)]
 case makeFunc fn first caps => cases fn <;> simp only <;> (try rw [onesO_congr caps.toList fun p hp => h p (by simp; exact .inr (by simpa using hp))])
 case makeSlice t x y => simp only; rw [h x (by simp), h y (by simp)]
 case slice t x lo hi mx => simp only; rw [h x (by simp), oneO_congr lo fun p hp => h p (by simp [hp]), oneO_congr hi fun p hp => h p (by simp [hp]), oneO_congr mx fun p hp => h p (by simp [hp])]
 case fieldAddr t x f => simp only; rw [h x (by simp)]
 case field t x f => simp only; rw [h x (by simp)]
 case indexAddr t x y => simp only; rw [h x (by simp), h y (by simp)]
 case index t x y => simp only; rw [h x (by simp), h y (by simp)]
 case extract x i => simp only; rw [h x (by simp)]
 case call c =>
  obtain ⟨callee, args, ats⟩ := c
  simp only [Call.operands] at h
  cases callee with
  | value f => simp only; rw [h f (by simp), tvsO_congr args.toList fun p hp => h p (by simp at hp; simp [hp])]
  | invoke r m => rfl
  | builtin b => simp only; rw [tvsO_congr args.toList fun p hp => h p (by simp at hp; simp [hp])]
theorem pre_congr {E : Env} {o : Oper} {ρ ρ' : Operand → Option TV} (h : ∀ x, x ∈ o.op.operands → ρ x = ρ' x) (nid : Nat) : pre E o ρ nid = pre E o ρ' nid := by
 unfold pre
 rw [pre0_congr h]
end Go.Proofs.YtdhifkdijlghdaaGreatDoorA
